/-
  The walks of groups: a job enters, by the program: its group is new.
  The walks of groups: a job enters, by the program.
-/
import Derived.Test.YtbellobjajnlkaaDoorCon17
import Derived.Deep.DeepCutAuto
import Derived.Deep.RegionHeld3

namespace Go.Proofs.YtbellobjajnlkaaDoor
open Go.RowKit

set_option maxRecDepth 100000 in
set_option maxHeartbeats 8000000 in
theorem enter_no (A : Option Addr) (c : Nat) (l : List Grp) (p : Str) (r : JRef) (P : I64) (w : World) (hr : RwG w w.heap.size A l) (hlc : l.length ≤ c) (hm : Mild l) (hG : Glob w) (hp : p.1.size < 4294967281) (hs : shortR r) (hE : enterE (l.map Grp.g) p r P.1 = 0) (hh : hasN p (l.map Grp.g) = false) :
    Calls Tryd.prog 14 #[.slice A l.length c, .string p.1, .agg #[.string r.run.1, .string r.job.1], .int .i64 P.1] w (fun e w' => ∃ (A' : Option Addr) (c' : Nat) (l' : List Grp) (Ac : Option Addr) (Cc : Nat), e = .returned (.tuple #[.slice A' l'.length c', .agg #[.bool (enterRun (l.map Grp.g) p r P.1), .slice Ac (enterCan (l.map Grp.g) p r P.1).length Cc], .int .i64 (enterE (l.map Grp.g) p r P.1)]) ∧ RwG w' w'.heap.size A' l' ∧ l'.length ≤ c' ∧ l'.map Grp.g = enterL (l.map Grp.g) p r P.1 ∧ Rw jRefE 2 w' w'.heap.size Ac (enterCan (l.map Grp.g) p r P.1) ∧ Below w.heap.size w w') := by
  obtain ⟨hv0, hj, hpp, h0, h2, hi, hl⟩ := enterE_ok hE
  have hv := val_iff.2 hv0
  have hRun : enterRun (l.map Grp.g) p r P.1 = joinRun (getG (l.map Grp.g) p) := by unfold enterRun; rw [if_neg (by rw [hE]; decide)]
  have hCan : enterCan (l.map Grp.g) p r P.1 = joinCan (getG (l.map Grp.g) p) P.1 := by unfold enterCan; rw [if_neg (by rw [hE]; decide)]
  have hLst : enterL (l.map Grp.g) p r P.1 = putG (l.map Grp.g) (joinG (getG (l.map Grp.g) p) r P.1) := by unfold enterL; rw [if_neg (by rw [hE]; decide)]
  rw [hRun, hCan, hLst, hE]
  clear hRun hCan hLst hE
  have hva : ∀ W, Below w.heap.size w W → Calls Tryd.prog 10 #[.slice A l.length c] W fun e w' => e = .returned (.int .i64 (validE (l.map Grp.g))) ∧ Below W.heap.size W w' := fun W hb => valid_any A c l W ((hr.below hb (Nat.le_refl _)).more hb.size) hlc hm (hG.keep hb)
  have hal : ∀ W, Below w.heap.size w W → Calls Tryd.prog 32 #[.slice A l.length c] W fun e w' => ∃ v, e = .returned v ∧ Own jRefE 2 29 w' W.heap.size v (allG (l.map Grp.g)) ∧ Below W.heap.size W w' := fun W hb => all_any A c l W ((hr.below hb (Nat.le_refl _)).more hb.size) hm.all hm.wait hm.len
  have hja : ∀ W, Below w.heap.size w W → Calls Tryd.prog 33 #[.agg #[.string r.run.1, .string r.job.1]] W fun e w' => e = .returned (.bool (jobB r)) ∧ Below W.heap.size W w' := fun W hb => job_any r W (hG.keep hb) hs
  have hpa : ∀ W, Below w.heap.size w W → Calls Tryd.prog 30 #[.string p.1] W fun e w' => e = .returned (.bool (pathB p)) ∧ Below W.heap.size W w' := fun W hb => path_any p W (hG.keep hb) hp
  have hln : (allG (l.map Grp.g)).length ≤ 9223372036854775807 := by have := hm.all; omega
  have hwh : ∀ (W W1 : World) (A1 : Option Addr) (c1 : Nat), Own jRefE 2 29 W1 w.heap.size (.slice A1 (allG (l.map Grp.g)).length c1) (allG (l.map Grp.g)) → Below W1.heap.size W1 W → W.cell? ⟨w.heap.size, 0, none⟩ = some (.string r.run.1) → W.cell? ⟨w.heap.size, 1, none⟩ = some (.string r.job.1) → Calls Tryd.prog 40 #[.slice A1 (allG (l.map Grp.g)).length c1, .func (.func 41) #[] #[.pointer (some ⟨w.heap.size, 0, none⟩)]] W fun e w' => e = .returned (.int .i64 (idxI (allG (l.map Grp.g)) r)) ∧ Below W.heap.size W w' := fun W W1 A1 c1 ho hb h0 h1 => where_any A1 c1 (allG (l.map Grp.g)) r w.heap.size W (((ho.reads jRefE_len).below hb (Nat.le_refl _)).more hb.size) hln h0 h1
  rw [show validE (l.map Grp.g) = 0 by unfold validE; rw [hv]; rfl] at hva
  rw [hj] at hja
  rw [hpp] at hpa
  have hq0 : ¬ P.1 < 0 := by omega
  have hq2 : ¬ 2 < P.1 := by omega
  rw [idx_none hi] at hwh
  have hl2 : ¬ (4096 : Int) ≤ ((allG (l.map Grp.g)).length : Int) := by omega
  clear hl h0 h2
  replace hi := Lib.hid hi
  replace hv0 := Lib.hid hv0
  have hco : Hid (∀ W, Below w.heap.size w W → Calls Tryd.prog 42 #[.slice A l.length c] W fun e w' => ∃ A' c' l', e = .returned (.slice A' l'.length c') ∧ OwnGL w' W.heap.size (.slice A' l'.length c') l' ∧ l'.map Grp.g = l.map Grp.g ∧ Below W.heap.size W w') := Lib.hid fun W hb => copied_any A c l W (hr.below hb (Nat.le_refl _) |>.more hb.size) hm
  have hll : ∀ l6 : List Grp, l6.map Grp.g = l.map Grp.g → l6.length = l.length := fun l6 e => by simpa using congrArg List.length e
  have hga : ∀ (W W6 : World) (A6 : Option Addr) (c6 : Nat) (l6 : List Grp) {H : Nat}, OwnGL W6 H (.slice A6 l6.length c6) l6 → l6.map Grp.g = l.map Grp.g → Below W6.heap.size W6 W → Calls Tryd.prog 43 #[.slice A6 l6.length c6, .string p.1] W fun e w' => e = .returned (.tuple #[.int .i64 (atN p (l.map Grp.g) : Int), .bool (hasN p (l.map Grp.g))]) ∧ Below W.heap.size W w' := fun W W6 A6 c6 l6 H ho he hb => by
    rw [← he]
    exact group_any A6 c6 l6 p W ((ho.reads.row.below hb (Nat.le_refl _)).more hb.size) (by rw [hll l6 he]; have := hm.len; omega)
  have hlm := hm.len
  replace hll := Lib.hid hll
  obtain ⟨k, hk⟩ : ∃ k, atN p (l.map Grp.g) = k := ⟨_, rfl⟩
  rw [hk, hh] at hga
  have hle := (atN_spec hv0.out.asc p).1
  rw [hk, List.length_map] at hle
  have hgp : getG (l.map Grp.g) p = ⟨p, zR, []⟩ := by unfold getG; rw [if_neg (by rw [hh]; decide)]
  have hxx : Hid (∀ l6 : List Grp, l6.map Grp.g = l.map Grp.g → ∀ y : Grp, y.g = joinG (getG (l.map Grp.g) p) r P.1 → ((l6.take k ++ (⟨p, zS, zS, none, 0, []⟩ : Grp) :: l6.drop k).set k y).map Grp.g = putG (l.map Grp.g) (joinG (getG (l.map Grp.g) p) r P.1)) := Lib.hid fun l6 e y hy => by
    have hl6 : l6.length = l.length := by simpa using congrArg List.length e
    have htl : (l6.take k).length = k := by rw [List.length_take]; omega
    rw [List.map_set, List.map_append, List.map_cons, List.map_take, List.map_drop, e, hy]
    unfold putG
    rw [joinG_name, getG_name, if_neg (by rw [hh]; decide), hk]
    have htl2 : ((l.map Grp.g).take k).length = k := by rw [List.length_take, List.length_map]; omega
    rw [List.set_append_right _ _ (by omega), htl2, Nat.sub_self, List.set_cons_zero]
  have hxg0 : Hid ((⟨p, zS, zS, none, 0, []⟩ : Grp).g = getG (l.map Grp.g) p) := Lib.hid hgp.symm
  clear hgp
  have hk' := Lib.hid hk
  clear hk
  replace hh := Lib.hid hh
  replace hga := Lib.hid hga
  replace hva := Lib.hid hva
  replace hal := Lib.hid hal
  replace hja := Lib.hid hja
  replace hpa := Lib.hid hpa
  replace hwh := Lib.hid hwh
  replace hv := Lib.hid hv
  try replace hj := Lib.hid hj
  try replace hpp := Lib.hid hpp
  replace hr := Lib.hid hr
  replace hm := Lib.hid hm
  replace hG := Lib.hid hG
  replace hs := Lib.hid hs
  clear hln hp
  go_enter Tryd.func14, Tryd.ntmps14
  go_upto_region 17 with (first
    | (go_at_call 32; go_must (refine (hal.out _ (by repeat (first | (with_reducible exact Below.refl _ _) | (with_reducible refine Below.drew ?_) | (with_reducible refine below_drewN ?_ _) | ((with_reducible refine Below.alloc ?_ ?_ _); rotate_left; focus ((try simp) <;> omega)) | ((with_reducible refine Below.setCell ?_ ?_ _); rotate_left; focus ((try simp) <;> omega)) | ((with_reducible refine Below.trans ?_ (Below.mono (by assumption) ?_)); rotate_left; focus ((try simp) <;> omega))))).mono ?_; rintro e w1 ⟨v1, rfl, hown1, hb1⟩; have hz1 := hb1.size; (try simp at hz1); have hza1 : w.heap.size < w1.heap.size := (by omega); have hzb1 : w.heap.size + 1 < w1.heap.size := (by omega); have hzc1 : w.heap.size + 1 + 1 < w1.heap.size := (by omega); obtain ⟨p1, f1⟩ := blk_at hb1 w.heap.size (by (try simp) <;> omega); obtain ⟨pp1, ff1⟩ := blk_at hb1 (w.heap.size + 1) (by (try simp) <;> omega); obtain ⟨ppp1, fff1⟩ := blk_at hb1 (w.heap.size + 1 + 1) (by (try simp) <;> omega); obtain ⟨A1, c1, rfl, _, _, _⟩ := hown1.form; have hown1b := Lib.hid (Own.base hown1 (b' := w.heap.size) (by (try simp) <;> omega)); clear hown1))
    | (go_at_call 10; go_must (refine (hva.out _ (by repeat (first | (with_reducible exact Below.refl _ _) | (with_reducible refine Below.drew ?_) | (with_reducible refine below_drewN ?_ _) | ((with_reducible refine Below.alloc ?_ ?_ _); rotate_left; focus ((try simp) <;> omega)) | ((with_reducible refine Below.setCell ?_ ?_ _); rotate_left; focus ((try simp) <;> omega)) | ((with_reducible refine Below.trans ?_ (Below.mono (by assumption) ?_)); rotate_left; focus ((try simp) <;> omega))))).mono ?_; rintro e w2 ⟨rfl, hb2⟩; have hz2 := hb2.size; (try simp at hz2); have hza2 : w.heap.size < w2.heap.size := (by omega); have hzb2 : w.heap.size + 1 < w2.heap.size := (by omega); have hzc2 : w.heap.size + 1 + 1 < w2.heap.size := (by omega); obtain ⟨p2, f2⟩ := blk_at hb2 w.heap.size (by (try simp) <;> omega); obtain ⟨pp2, ff2⟩ := blk_at hb2 (w.heap.size + 1) (by (try simp) <;> omega); obtain ⟨ppp2, fff2⟩ := blk_at hb2 (w.heap.size + 1 + 1) (by (try simp) <;> omega)))
    | (go_at_call 33; go_must (refine (hja.out _ (by repeat (first | (with_reducible exact Below.refl _ _) | (with_reducible refine Below.drew ?_) | (with_reducible refine below_drewN ?_ _) | ((with_reducible refine Below.alloc ?_ ?_ _); rotate_left; focus ((try simp) <;> omega)) | ((with_reducible refine Below.setCell ?_ ?_ _); rotate_left; focus ((try simp) <;> omega)) | ((with_reducible refine Below.trans ?_ (Below.mono (by assumption) ?_)); rotate_left; focus ((try simp) <;> omega))))).mono ?_; rintro e w3 ⟨rfl, hb3⟩; have hz3 := hb3.size; (try simp at hz3); have hza3 : w.heap.size < w3.heap.size := (by omega); have hzb3 : w.heap.size + 1 < w3.heap.size := (by omega); have hzc3 : w.heap.size + 1 + 1 < w3.heap.size := (by omega); obtain ⟨p3, f3⟩ := blk_at hb3 w.heap.size (by (try simp) <;> omega); obtain ⟨pp3, ff3⟩ := blk_at hb3 (w.heap.size + 1) (by (try simp) <;> omega); obtain ⟨ppp3, fff3⟩ := blk_at hb3 (w.heap.size + 1 + 1) (by (try simp) <;> omega)))
    | (go_at_call 30; go_must (refine (hpa.out _ (by repeat (first | (with_reducible exact Below.refl _ _) | (with_reducible refine Below.drew ?_) | (with_reducible refine below_drewN ?_ _) | ((with_reducible refine Below.alloc ?_ ?_ _); rotate_left; focus ((try simp) <;> omega)) | ((with_reducible refine Below.setCell ?_ ?_ _); rotate_left; focus ((try simp) <;> omega)) | ((with_reducible refine Below.trans ?_ (Below.mono (by assumption) ?_)); rotate_left; focus ((try simp) <;> omega))))).mono ?_; rintro e w4 ⟨rfl, hb4⟩; have hz4 := hb4.size; (try simp at hz4); have hza4 : w.heap.size < w4.heap.size := (by omega); have hzb4 : w.heap.size + 1 < w4.heap.size := (by omega); have hzc4 : w.heap.size + 1 + 1 < w4.heap.size := (by omega); obtain ⟨p4, f4⟩ := blk_at hb4 w.heap.size (by (try simp) <;> omega); obtain ⟨pp4, ff4⟩ := blk_at hb4 (w.heap.size + 1) (by (try simp) <;> omega); obtain ⟨ppp4, fff4⟩ := blk_at hb4 (w.heap.size + 1 + 1) (by (try simp) <;> omega)))
    | (go_at_call 40; go_must (refine (hwh.out _ w1 A1 c1 hown1b.out (by repeat (first | (with_reducible exact Below.refl _ _) | (with_reducible refine Below.drew ?_) | (with_reducible refine below_drewN ?_ _) | ((with_reducible refine Below.alloc ?_ ?_ _); rotate_left; focus ((try simp) <;> omega)) | ((with_reducible refine Below.setCell ?_ ?_ _); rotate_left; focus ((try simp) <;> omega)) | ((with_reducible refine Below.trans ?_ (Below.mono (by assumption) ?_)); rotate_left; focus ((try simp) <;> omega)))) (by go_simp) (by go_simp)).mono ?_; rintro e w5 ⟨rfl, hb5⟩; have hz5 := hb5.size; (try simp at hz5); have hza5 : w.heap.size < w5.heap.size := (by omega); have hzb5 : w.heap.size + 1 < w5.heap.size := (by omega); have hzc5 : w.heap.size + 1 + 1 < w5.heap.size := (by omega); obtain ⟨p5, f5⟩ := blk_at hb5 w.heap.size (by (try simp) <;> omega); obtain ⟨pp5, ff5⟩ := blk_at hb5 (w.heap.size + 1) (by (try simp) <;> omega); obtain ⟨ppp5, fff5⟩ := blk_at hb5 (w.heap.size + 1 + 1) (by (try simp) <;> omega)))
    | (go_at_call 42; go_must (refine (hco.out _ (by repeat (first | (with_reducible exact Below.refl _ _) | (with_reducible refine Below.drew ?_) | (with_reducible refine below_drewN ?_ _) | ((with_reducible refine Below.alloc ?_ ?_ _); rotate_left; focus ((try simp) <;> omega)) | ((with_reducible refine Below.setCell ?_ ?_ _); rotate_left; focus ((try simp) <;> omega)) | ((with_reducible refine Below.trans ?_ (Below.mono (by assumption) ?_)); rotate_left; focus ((try simp) <;> omega))))).mono ?_; rintro e w6 ⟨A6, c6, l6, rfl, ho6, hl6, hb6⟩; have hz6 := hb6.size; (try simp at hz6); have hza6 : w.heap.size < w6.heap.size := (by omega); have hzb6 : w.heap.size + 1 < w6.heap.size := (by omega); have hzc6 : w.heap.size + 1 + 1 < w6.heap.size := (by omega); obtain ⟨p6, f6⟩ := blk_at hb6 w.heap.size (by (try simp) <;> omega); obtain ⟨pp6, ff6⟩ := blk_at hb6 (w.heap.size + 1) (by (try simp) <;> omega); obtain ⟨ppp6, fff6⟩ := blk_at hb6 (w.heap.size + 1 + 1) (by (try simp) <;> omega); skip))
    | (go_at_call 43; go_must (refine (hga.out _ w6 A6 c6 l6 ho6 hl6 (Below.refl _ _)).mono ?_; rintro e w70 ⟨rfl, hb70⟩; have hz70 := hb70.size; (try simp at hz70); have hza70 : w.heap.size < w70.heap.size := (by omega); have hzb70 : w.heap.size + 1 < w70.heap.size := (by omega); have hzc70 : w.heap.size + 1 + 1 < w70.heap.size := (by omega); obtain ⟨p70, f70⟩ := blk_at hb70 w.heap.size (by (try simp) <;> omega); obtain ⟨pp70, ff70⟩ := blk_at hb70 (w.heap.size + 1) (by (try simp) <;> omega); obtain ⟨ppp70, fff70⟩ := blk_at hb70 (w.heap.size + 1 + 1) (by (try simp) <;> omega); have hl6e := Lib.hid (hll.out l6 hl6)))
    | (go_at_call 44; go_must (refine (gins_any (.slice A6 l6.length c6) k l6 w5.heap.size _ (OwnGL.all ho6 (show Below w6.heap.size w6 _ from (by repeat (first | (with_reducible exact Below.refl _ _) | (with_reducible refine Below.drew ?_) | (with_reducible refine below_drewN ?_ _) | ((with_reducible refine Below.alloc ?_ ?_ _); rotate_left; focus ((try simp) <;> omega)) | ((with_reducible refine Below.setCell ?_ ?_ _); rotate_left; focus ((try simp) <;> omega)) | ((with_reducible refine Below.trans ?_ (Below.mono (by assumption) ?_)); rotate_left; focus ((try simp) <;> omega)))))).row (by have := hl6e.out; omega) ⟨p, zS, zS, none, 0, []⟩ _ (heap_alloc_new _ _) (fun e => by have h2 := (ho6.row.lt _ e).2; (try simp at h2); omega) (by (try simp) <;> omega) (by have := hl6e.out; omega)).mono ?_; rintro e w7 ⟨v7, rfl, hown7, hbl7, hgr7⟩; have ho7 := OwnGL.ins (OwnGL.all ho6 (show Below w6.heap.size w6 _ from (by repeat (first | (with_reducible exact Below.refl _ _) | (with_reducible refine Below.drew ?_) | (with_reducible refine below_drewN ?_ _) | ((with_reducible refine Below.alloc ?_ ?_ _); rotate_left; focus ((try simp) <;> omega)) | ((with_reducible refine Below.setCell ?_ ?_ _); rotate_left; focus ((try simp) <;> omega)) | ((with_reducible refine Below.trans ?_ (Below.mono (by assumption) ?_)); rotate_left; focus ((try simp) <;> omega)))))) hown7 hgr7 (show Own jRefE 2 29 w7 w5.heap.size (.slice none 0 0) [] from Own.nil _ _ _) rfl; obtain ⟨l7, hl7⟩ : ∃ l7, l7 = l6.take k ++ (⟨p, zS, zS, none, 0, []⟩ : Grp) :: l6.drop k := ⟨_, rfl⟩; rw [← hl7] at ho7; clear hown7; have hx7 := Lib.hid (show l7[k]? = some (⟨p, zS, zS, none, 0, []⟩ : Grp) from by rw [hl7, List.getElem?_append_right (by rw [List.length_take]; omega), List.length_take, Nat.min_eq_left (by have := hl6e.out; omega), Nat.sub_self]; rfl); obtain ⟨A7, c7, rfl, _, _, _⟩ := ho7.row.form; obtain ⟨g, cap, hv7, hHg, hgl⟩ := World.ownsRow.form ho7.row (List.length_pos_of_mem (List.mem_of_getElem? hx7.out)); simp only [Value.slice.injEq] at hv7; obtain ⟨rfl, -, rfl⟩ := hv7; replace hl7 := Lib.hid hl7; have hz7 := hgr7.size; (try simp at hz7); have hza7 : w.heap.size < w7.heap.size := (by omega); have hzb7 : w.heap.size + 1 < w7.heap.size := (by omega); have p7 := (fun o => hbl7.cell (p := ⟨w.heap.size, o, none⟩) (show w.heap.size < w5.heap.size by omega)); have f7 := (fun o => hbl7.frozen (p := ⟨w.heap.size, o, none⟩) (show w.heap.size < w5.heap.size by omega)); have pp7 := (fun o => hbl7.cell (p := ⟨w.heap.size + 1, o, none⟩) (show w.heap.size + 1 < w5.heap.size by omega)); have ff7 := (fun o => hbl7.frozen (p := ⟨w.heap.size + 1, o, none⟩) (show w.heap.size + 1 < w5.heap.size by omega)); have ppp7 := (fun o => hbl7.cell (p := ⟨w.heap.size + 1 + 1, o, none⟩) (show w.heap.size + 1 + 1 < w5.heap.size by omega)); have fff7 := (fun o => hbl7.frozen (p := ⟨w.heap.size + 1 + 1, o, none⟩) (show w.heap.size + 1 + 1 < w5.heap.size by omega)); clear hgr7)))
  have hput : ∀ y : Grp, y.g = joinG (getG (l.map Grp.g) p) r P.1 → (l7.set k y).map Grp.g = putG (l.map Grp.g) (joinG (getG (l.map Grp.g) p) r P.1) := fun y hy => by
    rw [hl7.out]
    exact hxx.out l6 hl6 y hy
  obtain ⟨x, hx0⟩ : ∃ x : Grp, x = ⟨p, zS, zS, none, 0, []⟩ := ⟨_, rfl⟩
  have hx : l7[k]? = some x := by rw [hx0]; exact hx7.out
  have hxg : x.g = getG (l.map Grp.g) p := by rw [hx0]; exact hxg0.out
  have hxw : x.wait.length ≤ 1000000 := by rw [hx0]; exact Nat.zero_le _
  replace hx0 := Lib.hid hx0
  replace ho6 := Lib.hid ho6
  have hkL : k < l7.length := (List.getElem?_eq_some_iff.1 hx).1
  have hox : Hid (OwnG w7 w5.heap.size x) := Lib.hid (ho7.labs x (List.mem_of_getElem? hx)).1
  have hgx : Hid (some g ≠ blkG x) := Lib.hid fun e => (ho7.labs x (List.mem_of_getElem? hx)).2 g e.symm rfl
  have hxlt : Hid (∀ b, blkG x = some b → b < w7.heap.size) := Lib.hid fun b hb => (OwnG.lt (ho7.labs x (List.mem_of_getElem? hx)).1 hb).2
  have hgw7 : g < w7.heap.size := (ho7.row.lt g rfl).2
  have hcg : ∀ j u, (grpE x)[j]? = some u → w7.cell? ⟨g, k * 4 + j, none⟩ = some u := fun j u hu => by
    obtain ⟨g', o', e', _, q⟩ := ho7.row.reads grpE_len (List.length_pos_of_mem (List.mem_of_getElem? hx))
    simp only [Option.some.injEq, Addr.mk.injEq] at e'
    obtain ⟨rfl, rfl, _⟩ := e'
    have := q k x hx j u hu
    rw [Nat.zero_add] at this
    exact this
  have q0 := hcg 0 (.string x.name.1) rfl
  try rw [Nat.add_zero] at q0
  have q1 := hcg 1 (.string x.run.1) rfl
  have q2 := hcg 2 (.string x.job.1) rfl
  have q3 := hcg 3 (.slice x.waitA x.wait.length x.waitC) rfl
  clear hcg
  have hfz : ∀ j, w7.frozen? ⟨g, j, none⟩ = false := fun j => World.ownsRow.frozenAt ho7.row j
  have k0 : w7.cell? ⟨w.heap.size, 0, none⟩ = some (.string r.run.1) := by go_simp
  have k1 : w7.cell? ⟨w.heap.size, 1, none⟩ = some (.string r.job.1) := by go_simp
  have kk0 : w7.cell? ⟨w.heap.size + 1, 0, none⟩ = some (.bool false) := by go_simp
  have kk1 : w7.cell? ⟨w.heap.size + 1, 1, none⟩ = some (.slice none 0 0) := by go_simp
  have kf : ∀ o, w7.frozen? ⟨w.heap.size + 1, o, none⟩ = false := fun o => by go_simp
  (try clear p70 f70 pp70 ff70 ppp70 fff70)
  clear p1 p2 p3 p4 p5 p6 p7 f1 f2 f3 f4 f5 f6 f7 pp1 pp2 pp3 pp4 pp5 pp6 pp7 ff1 ff2 ff3 ff4 ff5 ff6 ff7 ppp1 ppp2 ppp3 ppp4 ppp5 ppp6 ppp7 fff1 fff2 fff3 fff4 fff5 fff6 fff7
  have hx7 : Hid (some w7.heap.size ≠ blkG x) := Lib.hid fun e => by have := hxlt.out _ e.symm; omega
  have hx8 : Hid (some (w7.heap.size + 1) ≠ blkG x) := Lib.hid fun e => by have := hxlt.out _ e.symm; omega
  have hn1 : Hid ((w7.heap.size < w7.heap.size + 1) = True) := Lib.hid (eq_true (by omega))
  have hn2 : Hid ((w7.heap.size < w7.heap.size + 1 + 1) = True) := Lib.hid (eq_true (by omega))
  have hn3 : Hid ((w7.heap.size + 1 < w7.heap.size + 1 + 1) = True) := Lib.hid (eq_true (by omega))
  have hno1 : Hid ((w7.heap.size < w7.heap.size) = False) := Lib.hid (eq_false (by omega))
  have hno2 : Hid ((w7.heap.size + 1 < w7.heap.size) = False) := Lib.hid (eq_false (by omega))
  have hno3 : Hid ((w7.heap.size + 1 < w7.heap.size + 1) = False) := Lib.hid (eq_false (by omega))
  have ct2 : ∀ (c : Array Value) (t : TypeId) (b : Obj) (i : Nat), ((w7.drew.alloc (.cells c t)).alloc b).cell? ⟨w7.heap.size, i, none⟩ = c[i]? := fun c t b i => World.cell?_alloc2_first (w := w7.drew) c t b i
  have ng7 : g ≠ w7.heap.size := by omega
  have ng7a : g ≠ w7.heap.size + 1 := by omega
  have nw7 : w.heap.size ≠ w7.heap.size := by omega
  have nw7a : w.heap.size ≠ w7.heap.size + 1 := by omega
  have i0 : (0 : Int) ≤ (k : Int) := by omega
  have i1 : (k : Int) < (l7.length : Int) := by omega
  have hcap : l7.length ≤ c7 := by obtain ⟨_, _, e, h1, _⟩ := ho7.row.form; simp only [Value.slice.injEq] at e; obtain ⟨-, -, rfl⟩ := e; exact h1
  replace ho7 := Lib.hid ho7
  replace hx := Lib.hid hx
  replace hxg := Lib.hid hxg
  replace hxw := Lib.hid hxw
  replace hput := Lib.hid hput
  go_cut [16, 17] (fun s16 s17 wx => ∃ (b16 b17 : Nat) (y : Grp) (A8 : Option Addr) (c8 : Nat), s16 = .pointer (some ⟨b16, 0, none⟩) ∧ s17 = .pointer (some ⟨b17, 0, none⟩) ∧ w7.heap.size ≤ b16 ∧ w7.heap.size ≤ b17 ∧ w7.heap.size ≤ wx.heap.size ∧ y.g = joinG x.g r P.1 ∧ OwnG wx w5.heap.size y ∧ (blkG y = blkG x ∨ ∀ q, blkG y = some q → w7.heap.size ≤ q) ∧ Own jRefE 2 29 wx w7.heap.size (.slice A8 (joinCan x.g P.1).length c8) (joinCan x.g P.1) ∧ (wx.cell? ⟨b16, 0, none⟩ = some (.string y.name.1) ∧ wx.cell? ⟨b16, 1, none⟩ = some (.string y.run.1) ∧ wx.cell? ⟨b16, 2, none⟩ = some (.string y.job.1) ∧ wx.cell? ⟨b16, 3, none⟩ = some (.slice y.waitA y.wait.length y.waitC)) ∧ (wx.cell? ⟨b17, 0, none⟩ = some (.bool (joinRun x.g)) ∧ wx.cell? ⟨b17, 1, none⟩ = some (.slice A8 (joinCan x.g P.1).length c8)) ∧ Below w5.heap.size w7 wx ∧ But w7.heap.size (blkG x) w7 wx)
  case first =>
    go_region_held3 (fun w' => w'.cell? ⟨g, k * 4, none⟩ = some (.string x.name.1) ∧ w'.cell? ⟨g, k * 4 + 1, none⟩ = some (.string x.run.1) ∧ w'.cell? ⟨g, k * 4 + 2, none⟩ = some (.string x.job.1) ∧ w'.cell? ⟨g, k * 4 + 3, none⟩ = some (.slice x.waitA x.wait.length x.waitC) ∧ w'.cell? ⟨w.heap.size, 0, none⟩ = some (.string r.run.1) ∧ w'.cell? ⟨w.heap.size, 1, none⟩ = some (.string r.job.1)) (first | (go_keep; done) | (go_simp; done) | go_keep)
      (first | (go_at_call 45; go_must (refine (joined_any x r P.1 w5.heap.size _ (OwnG.all hox.out (by repeat (first | (with_reducible exact Below.refl _ _) | (with_reducible refine Below.drew ?_) | (with_reducible refine below_drewN ?_ _) | ((with_reducible refine Below.alloc ?_ ?_ _); rotate_left; focus ((try simp) <;> omega)) | ((with_reducible refine Below.setCell ?_ ?_ _); rotate_left; focus ((try simp) <;> omega)) | ((with_reducible refine Below.trans ?_ (Below.mono (by assumption) ?_)); rotate_left; focus ((try simp) <;> omega))))) (by (try simp) <;> omega) hxw.out).mono ?_; rintro e w8 ⟨y, A8, c8, rfl, hyg, hoy, hyb, hoc, hb8, hbt8⟩; have hz8 := hbt8.size; (try simp at hz8); have hza8 : w.heap.size < w8.heap.size := (by omega); have hzb8 : w.heap.size + 1 < w8.heap.size := (by omega); have p8 := (fun o => hb8.cell (p := ⟨w.heap.size, o, none⟩) (show w.heap.size < w5.heap.size by omega)); have pp8 := (fun o => hb8.cell (p := ⟨w.heap.size + 1, o, none⟩) (show w.heap.size + 1 < w5.heap.size by omega)); have ff8 := (fun o => hb8.frozen (p := ⟨w.heap.size + 1, o, none⟩) (show w.heap.size + 1 < w5.heap.size by omega)); obtain ⟨g8, gf8⟩ := but_block hbt8 (g := g) (by (try simp) <;> omega) hgx.out; have n8 := (fun h => (but_block hbt8 (g := w7.heap.size) h hx7.out).1); have nf8 := (fun h => (but_block hbt8 (g := w7.heap.size) h hx7.out).2); have n9 := (fun h => (but_block hbt8 (g := w7.heap.size + 1) h hx8.out).1); have nf9 := (fun h => (but_block hbt8 (g := w7.heap.size + 1) h hx8.out).2); have nz8 := (fun h => Nat.lt_of_lt_of_le (n := w7.heap.size) h hbt8.size); have nz9 := (fun h => Nat.lt_of_lt_of_le (n := w7.heap.size + 1) h hbt8.size); (try simp only [World.size_alloc, show ∀ W : World, W.drew.heap.size = W.heap.size from fun _ => rfl, hn1.out, hn2.out, hno1.out, forall_const, false_implies] at n8); (try simp only [World.size_alloc, show ∀ W : World, W.drew.heap.size = W.heap.size from fun _ => rfl, hn1.out, hn2.out, hno1.out, forall_const, false_implies] at nf8); (try simp only [World.size_alloc, show ∀ W : World, W.drew.heap.size = W.heap.size from fun _ => rfl, hn3.out, hno2.out, hno3.out, forall_const, false_implies] at n9); (try simp only [World.size_alloc, show ∀ W : World, W.drew.heap.size = W.heap.size from fun _ => rfl, hn3.out, hno2.out, hno3.out, forall_const, false_implies] at nf9); (try simp only [World.size_alloc, show ∀ W : World, W.drew.heap.size = W.heap.size from fun _ => rfl, hn1.out, hn2.out, hno1.out, forall_const, false_implies] at nz8); (try simp only [World.size_alloc, show ∀ W : World, W.drew.heap.size = W.heap.size from fun _ => rfl, hn3.out, hno2.out, hno3.out, forall_const, false_implies] at nz9); have ng8 : g < w8.heap.size := (by omega); have d0 : w8.cell? ⟨g, k * 4, none⟩ = some (.string x.name.1) := (g8 _).trans (by go_simp); have d1 : w8.cell? ⟨g, k * 4 + 1, none⟩ = some (.string x.run.1) := (g8 _).trans (by go_simp); have d2 : w8.cell? ⟨g, k * 4 + 2, none⟩ = some (.string x.job.1) := (g8 _).trans (by go_simp); have d3 : w8.cell? ⟨g, k * 4 + 3, none⟩ = some (.slice x.waitA x.wait.length x.waitC) := (g8 _).trans (by go_simp); have df : ∀ o, w8.frozen? ⟨g, o, none⟩ = false := (fun o => (gf8 o).trans (by go_simp)); have e0 : w8.cell? ⟨w.heap.size, 0, none⟩ = some (.string r.run.1) := (p8 _).trans (by go_simp); have e1 : w8.cell? ⟨w.heap.size, 1, none⟩ = some (.string r.job.1) := (p8 _).trans (by go_simp); have ee0 : w8.cell? ⟨w.heap.size + 1, 0, none⟩ = some (.bool false) := (pp8 _).trans (by go_simp); have ee1 : w8.cell? ⟨w.heap.size + 1, 1, none⟩ = some (.slice none 0 0) := (pp8 _).trans (by go_simp); have ef : ∀ o, w8.frozen? ⟨w.heap.size + 1, o, none⟩ = false := (fun o => (ff8 o).trans (by go_simp)); clear g8 gf8 p8 pp8 ff8; have hyq := Lib.hid (fun (q : Nat) (hq : blkG y = some q) => hyb.imp (fun e => hxlt.out q (e.symm.trans hq)) (fun h => h q hq)); have hyk := Lib.hid hyg; have hyb2 := Lib.hid hyb; have hoy2 := Lib.hid hoy; have hoc2 := Lib.hid hoc; have hb8k := Lib.hid hb8; have hbt8k := Lib.hid hbt8; clear hyg hyb hoy hoc hb8 hbt8)))
    all_goals go_wp2_with fail
    all_goals go_meet
    all_goals
      refine ⟨_, _, y, A8, c8, rfl, rfl, by (try simp) <;> omega, by (try simp) <;> omega, by (try simp) <;> omega, hyk.out, ?_, ?_, ?_, ⟨by go_simp, by go_simp, by go_simp, by go_simp⟩, ⟨by go_simp, by go_simp⟩, ?_, ?_⟩
      · show Own jRefE 2 _ _ _ _ _
        have hoo : Own jRefE 2 29 w8 w5.heap.size (.slice y.waitA y.wait.length y.waitC) y.wait := hoy2.out
        (repeat (first
          | (with_reducible exact hoo)
          | ((with_reducible refine Own.setCell ?_ ?_ _); rotate_left; focus (intro q hq e; have := (hyq.out q hq); (try simp at this); (try simp at e); omega))
          | (with_reducible refine Own.alloc ?_ _)
          | (with_reducible refine Own.drew ?_)))
      · (have h9 := hyb2.out; clear hyb2; refine h9.imp id (fun h q hq => ?_); have h7 := h q hq; (try simp at h7); omega)
      · have hoo := Own.base hoc2.out (b' := w7.heap.size) (by (try simp) <;> omega)
        (repeat (first
          | (with_reducible exact hoo)
          | ((with_reducible refine Own.setCell ?_ ?_ _); rotate_left; focus (intro q hq e; have := (hoc2.out.lt q hq).1; (try simp at this); (try simp at e); omega))
          | (with_reducible refine Own.alloc ?_ _)
          | (with_reducible refine Own.drew ?_)))
      · have hb8 := hb8k.out
        exact (by repeat (first | (with_reducible exact Below.refl _ _) | (with_reducible refine Below.drew ?_) | (with_reducible refine below_drewN ?_ _) | ((with_reducible refine Below.alloc ?_ ?_ _); rotate_left; focus ((try simp) <;> omega)) | ((with_reducible refine Below.setCell ?_ ?_ _); rotate_left; focus ((try simp) <;> omega)) | ((with_reducible refine Below.trans ?_ (Below.mono (by assumption) ?_)); rotate_left; focus ((try simp) <;> omega))))
      · have hbt8 := hbt8k.out
        exact (by repeat (first | (with_reducible exact But.refl) | (with_reducible refine But.drew ?_) | ((with_reducible refine But.alloc ?_ ?_ _); rotate_left; focus ((try simp) <;> omega)) | ((with_reducible refine But.setCell ?_ ?_ _); rotate_left; focus ((try simp) <;> omega)) | ((with_reducible refine But.step ?_ (by assumption) ?_); rotate_left; focus ((try simp) <;> omega))))
  case rest =>
    obtain ⟨b16, b17, y, A8, c8, rfl, rfl, hb16, hb17, hzx, hyg, hoy, hyb, hoc, ⟨y0, y1, y2, y3⟩, ⟨v0, v1⟩, hbl, hbt⟩ := hcut
    obtain ⟨gc, gf⟩ := but_block hbt hgw7 hgx.out
    have r0 : wc.cell? ⟨g, k * 4, none⟩ = some (.string x.name.1) := (gc _).trans q0
    have r1 : wc.cell? ⟨g, k * 4 + 1, none⟩ = some (.string x.run.1) := (gc _).trans q1
    have r2 : wc.cell? ⟨g, k * 4 + 2, none⟩ = some (.string x.job.1) := (gc _).trans q2
    have r3 : wc.cell? ⟨g, k * 4 + 3, none⟩ = some (.slice x.waitA x.wait.length x.waitC) := (gc _).trans q3
    have rf : ∀ o, wc.frozen? ⟨g, o, none⟩ = false := fun o => (gf o).trans (hfz o)
    have m0 : wc.cell? ⟨w.heap.size + 1, 0, none⟩ = some (.bool false) := (hbl.cell (p := ⟨w.heap.size + 1, 0, none⟩) (show w.heap.size + 1 < w5.heap.size by omega)).trans kk0
    have m1 : wc.cell? ⟨w.heap.size + 1, 1, none⟩ = some (.slice none 0 0) := (hbl.cell (p := ⟨w.heap.size + 1, 1, none⟩) (show w.heap.size + 1 < w5.heap.size by omega)).trans kk1
    have mf : ∀ o, wc.frozen? ⟨w.heap.size + 1, o, none⟩ = false := fun o => (hbl.frozen (p := ⟨w.heap.size + 1, o, none⟩) (show w.heap.size + 1 < w5.heap.size by omega)).trans (kf o)
    have hg5 : w5.heap.size ≤ g := hHg
    have o1 : b16 ≠ g := by omega
    have o2 : b17 ≠ g := by omega
    have o3 : w.heap.size + 1 ≠ g := by omega
    have o4 : g ≠ w.heap.size + 1 := by omega
    have o5 : b17 ≠ w.heap.size + 1 := by omega
    have o6 : g < wc.heap.size := by omega
    have o7 : w.heap.size + 1 < wc.heap.size := by omega
    clear gc gf q0 q1 q2 q3 kk0 kk1 kf hfz k0 k1 ct2 ng7 ng7a nw7 nw7a
    have hlc6 : l7.length ≤ c7 := hcap
    have hpt := Lib.hid (OwnGL.put ho7.out hx.out hbt hoy hyb)
    have hmp := Lib.hid (hput.out y (hyg.trans (by rw [hxg.out])))
    have hocH := Lib.hid hoc
    clear hoy hyb hoc hyg hbt
    go_wp2_with fail
    go_region
    go_wp2_with fail
    change bodyPost _ _ _ _ _ (World.drew (fin6 wc g k y (w.heap.size + 1) (.bool (joinRun x.g)) (.slice A8 (joinCan x.g P.1).length c8)))
    obtain ⟨z0, z1⟩ := fin6_cells (w := wc) (g := g) (k := k) (b := w.heap.size + 1) (y := y) (u0 := .bool (joinRun x.g)) (u1 := .slice A8 (joinCan x.g P.1).length c8) o3 m0 m1
    have hO := Lib.hid (fin6_own (b := w.heap.size + 1) (u0 := .bool (joinRun x.g)) (u1 := .slice A8 (joinCan x.g P.1).length c8) hpt.out (by omega))
    have hC := Lib.hid (fin6_row (g := g) (k := k) (b := w.heap.size + 1) (y := y) (u0 := .bool (joinRun x.g)) (u1 := .slice A8 (joinCan x.g P.1).length c8) hocH.out (fun q hq => by have := (hocH.out.lt q hq).1; omega))
    have hB := Lib.hid ((show Below w.heap.size w wc from (by repeat (first | (with_reducible exact Below.refl _ _) | (with_reducible refine Below.drew ?_) | (with_reducible refine below_drewN ?_ _) | ((with_reducible refine Below.alloc ?_ ?_ _); rotate_left; focus ((try simp) <;> omega)) | ((with_reducible refine Below.setCell ?_ ?_ _); rotate_left; focus ((try simp) <;> omega)) | ((with_reducible refine Below.trans ?_ (Below.mono (by assumption) ?_)); rotate_left; focus ((try simp) <;> omega))))).trans (fin6_below (k := k) (y := y) (u0 := .bool (joinRun x.g)) (u1 := .slice A8 (joinCan x.g P.1).length c8) (show w.heap.size ≤ g by omega) (show w.heap.size ≤ w.heap.size + 1 by omega)))
    generalize fin6 wc g k y (w.heap.size + 1) (.bool (joinRun x.g)) (.slice A8 (joinCan x.g P.1).length c8) = w9 at *
    exact bodyPost_ret (v := .tuple #[.slice (some ⟨g, 0, none⟩) l7.length c7, .agg #[.bool (joinRun x.g), .slice A8 (joinCan x.g P.1).length c8], .int .i64 0]) (by simp [results, Tryd.results14, go_sem, z0, z1]) rfl ⟨some ⟨g, 0, none⟩, c7, l7.set k y, A8, c8, by rw [← hxg.out, List.length_set], OwnGL.reads (OwnGL.drew hO.out), by rw [List.length_set]; exact hlc6, hmp.out, by rw [← hxg.out]; exact (Own.drew hC.out).reads jRefE_len, hB.out.drew⟩
end Go.Proofs.YtbellobjajnlkaaDoor

namespace Go.Proofs.YtbellobjajnlkaaDoor
open Go.RowKit

theorem enter_any (A : Option Addr) (c : Nat) (l : List Grp) (p : Str) (r : JRef) (P : I64) (w : World) (hr : RwG w w.heap.size A l) (hlc : l.length ≤ c) (hm : Mild l) (hG : Glob w) (hp : p.1.size < 4294967281) (hs : shortR r) :
    Calls Tryd.prog 14 #[.slice A l.length c, .string p.1, .agg #[.string r.run.1, .string r.job.1], .int .i64 P.1] w (fun e w' => ∃ (A' : Option Addr) (c' : Nat) (l' : List Grp) (Ac : Option Addr) (Cc : Nat), e = .returned (.tuple #[.slice A' l'.length c', .agg #[.bool (enterRun (l.map Grp.g) p r P.1), .slice Ac (enterCan (l.map Grp.g) p r P.1).length Cc], .int .i64 (enterE (l.map Grp.g) p r P.1)]) ∧ RwG w' w'.heap.size A' l' ∧ l'.length ≤ c' ∧ l'.map Grp.g = enterL (l.map Grp.g) p r P.1 ∧ Rw jRefE 2 w' w'.heap.size Ac (enterCan (l.map Grp.g) p r P.1) ∧ Below w.heap.size w w') := by
  by_cases hE : enterE (l.map Grp.g) p r P.1 = 0
  · rcases hh : hasN p (l.map Grp.g) with _ | _
    · exact enter_no A c l p r P w hr hlc hm hG hp hs hE hh
    · exact enter_has A c l p r P w hr hlc hm hG hp hs hE hh
  · refine (enter_err A c l p r P w hr hlc hm hG hp hs hE).mono ?_
    rintro e w' ⟨rfl, hb⟩
    have hRun : enterRun (l.map Grp.g) p r P.1 = false := by unfold enterRun; rw [if_pos hE]
    have hCan : enterCan (l.map Grp.g) p r P.1 = [] := by unfold enterCan; rw [if_pos hE]
    have hLst : enterL (l.map Grp.g) p r P.1 = l.map Grp.g := by unfold enterL; rw [if_pos hE]
    rw [hRun, hCan, hLst]
    exact ⟨A, c, l, none, 0, rfl, (hr.below hb (Nat.le_refl _)).more hb.size, hlc, rfl, Rw.nil, hb⟩
end Go.Proofs.YtbellobjajnlkaaDoor
