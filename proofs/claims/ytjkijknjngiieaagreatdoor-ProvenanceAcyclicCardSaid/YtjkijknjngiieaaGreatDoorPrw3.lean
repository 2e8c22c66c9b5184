/-
  The walks of provenance: what the program's map knows; a link in new memory.
-/
import Derived.Test.YtjkijknjngiieaaGreatDoorPrw2
import Derived.Test.YtjkijknjngiieaaGreatDoorCopyGr
import Derived.Deep.RegionHeld3
import Derived.Deep.DeepCutAuto



namespace Go.Proofs.YtjkijknjngiieaaGreatDoor
open Go.RowKit

theorem bcell {W w1 : World} (hb : Below W.heap.size W w1) : (∀ b o, b < W.heap.size → w1.cell? ⟨b, o, none⟩ = W.cell? ⟨b, o, none⟩) ∧ (∀ b o, b < W.heap.size → w1.frozen? ⟨b, o, none⟩ = W.frozen? ⟨b, o, none⟩) :=
  ⟨fun b o h => hb.cell (p := ⟨b, o, none⟩) h, fun b o h => hb.frozen (p := ⟨b, o, none⟩) h⟩
theorem wf_i64 {n : Int} (h : -9223372036854775808 ≤ n ∧ n ≤ 9223372036854775807) : (Lit.int .i64 n).wf = true := by
  simp [Lit.wf, IntKind.min, IntKind.max, IntKind.signed, IntKind.bits]; omega
theorem own_base {α : Type} {enc : α → List Value} {k : Nat} {e : TypeId} {w : World} {b b' : Nat} {v : Value} {l : List α} (h : Own enc k e w b v l) (hb : b' ≤ b) : Own enc k e w b' v l := by
  refine ⟨h.1, ?_⟩
  rcases h.2 with hn | ⟨g, cap, cur, rfl, hb1, r⟩
  · exact .inl hn
  · exact .inr ⟨g, cap, cur, rfl, by omega, r⟩
theorem links_at {l : List Lkr} {k : Nat} {x : Lkr} (h : l[k]? = some x) : (l.take (k + 1)).map Lkr.h = (l.take k).map Lkr.h ++ [x.h] := by
  rw [take_at h, List.map_append]; rfl
set_option maxRecDepth 100000 in
set_option maxHeartbeats 4000000 in
theorem index_any (A : Option Addr) (c : Nat) (l : List Lkr) (w : World) (hr : Rw lkrE 8 w w.heap.size A l) (hn : l.length ≤ 1000000) (hm : ∀ x ∈ l, x.job.1.size + x.name.1.size + 1 ≤ 9223372036854775807) :
    Calls Tryz.prog 34 #[.slice A l.length c] w fun e w' => e = .returned (.map (some w.heap.size)) ∧ MapI Tryz.prog 86 3 w' w.heap.size l.length (ixF (l.map Lkr.h)) ∧ Below w.heap.size w w' := by
  replace hr := Lib.hid hr
  replace hm := Lib.hid hm
  have hmm := @run_makeMap Tryz.prog
  go_enter Tryz.func34, Tryz.ntmps34
  go_wp2_with fail
  clear hmm
  go_loopw [12] (fun vi wr => ∃ k : Nat, k ≤ l.length ∧ vi = .int .i64 (k : Int) ∧ MapI Tryz.prog 86 3 wr w.heap.size k (ixF ((l.take k).map Lkr.h)) ∧ Below w.heap.size w wr) (fun vi _ => l.length - (intOf vi).toNat)
  case atStart => exact ⟨0, Nat.zero_le _, rfl, MapI.made w Tryz.prog 86 3, (Below.refl _ _).alloc (Nat.le_refl _) _⟩
  case round =>
    obtain ⟨k, hk, rfl, hmp, hbw⟩ := hrel
    have hz := hbw.size
    have hmlt := hmp.lt
    by_cases hkl : k < l.length
    · obtain ⟨x, hx⟩ := get_some hkl
      obtain ⟨g, o, rfl, hg, hq⟩ := hr.out (by omega)
      have q0 := (hbw.cell (p := ⟨g, o + k * 8 + 0, none⟩) hg).trans (hq k x hx 0 (.string x.run.1) rfl)
      rw [Nat.add_zero] at q0
      have q1 := (hbw.cell (p := ⟨g, o + k * 8 + 1, none⟩) hg).trans (hq k x hx 1 (.string x.job.1) rfl)
      have q2 := (hbw.cell (p := ⟨g, o + k * 8 + 2, none⟩) hg).trans (hq k x hx 2 (.int .i64 x.attempt.1) rfl)
      have q3 := (hbw.cell (p := ⟨g, o + k * 8 + 3, none⟩) hg).trans (hq k x hx 3 (.int .u64 x.spec.1) rfl)
      have q4 := (hbw.cell (p := ⟨g, o + k * 8 + 4, none⟩) hg).trans (hq k x hx 4 (.slice x.insA x.ins.length x.insC) rfl)
      have q5 := (hbw.cell (p := ⟨g, o + k * 8 + 5, none⟩) hg).trans (hq k x hx 5 (.string x.name.1) rfl)
      have q6 := (hbw.cell (p := ⟨g, o + k * 8 + 6, none⟩) hg).trans (hq k x hx 6 (.int .u64 x.digest.1) rfl)
      have q7 := (hbw.cell (p := ⟨g, o + k * 8 + 7, none⟩) hg).trans (hq k x hx 7 (.int .i64 x.size.1) rfl)
      clear hq
      have i0 : (0 : Int) ≤ (k : Int) := by omega
      have i1 : (k : Int) < (l.length : Int) := by omega
      have hgr : g < wr.heap.size := by omega
      have hln := Lib.hid (fun W => lname_any x W (hm.out x (List.mem_of_getElem? hx)))
      have hat := ixF_at ((l.take k).map Lkr.h) x.run (nameL x.h)
      have hla := links_at hx
      replace hmp := Lib.hid hmp
      replace hx := Lib.hid hx
      go_upto_region 5 with fail
      go_cut [6] (fun s6 wx => ∃ b : Nat, s6 = .pointer (some ⟨b, 0, none⟩) ∧ wr.heap.size ≤ b ∧ b < wx.heap.size ∧ wx.cell? ⟨b, 0, none⟩ = some (.string x.run.1) ∧ wx.cell? ⟨b, 1, none⟩ = some (.string (nameL x.h).1) ∧ Below wr.heap.size wr wx)
      case first =>
        go_region_held3 (fun w' => w'.cell? ⟨wr.heap.size, 0, none⟩ = some (.string x.run.1) ∧ w'.cell? ⟨wr.heap.size, 1, none⟩ = some (.string x.job.1) ∧ w'.cell? ⟨wr.heap.size, 2, none⟩ = some (.int .i64 x.attempt.1) ∧ w'.cell? ⟨wr.heap.size, 3, none⟩ = some (.int .u64 x.spec.1) ∧ w'.cell? ⟨wr.heap.size, 4, none⟩ = some (.slice x.insA x.ins.length x.insC) ∧ w'.cell? ⟨wr.heap.size, 5, none⟩ = some (.string x.name.1) ∧ w'.cell? ⟨wr.heap.size, 6, none⟩ = some (.int .u64 x.digest.1) ∧ w'.cell? ⟨wr.heap.size, 7, none⟩ = some (.int .i64 x.size.1)) (first | (go_keep; done) | (go_simp; done) | go_keep)
          (first
          | (go_at_call 46; go_must (refine (hln.out _).mono ?_; rintro e w2 ⟨rfl, hb2⟩; have hz2 := hb2.size; (try simp at hz2); have hk2 : wr.heap.size < w2.heap.size := (by omega); obtain ⟨hc2, hf2⟩ := blk_at hb2 wr.heap.size (by (try simp) <;> omega); obtain ⟨hd2, he2⟩ := bcell hb2))
          | fail "none")
        all_goals (go_wp2_with fail; go_meet)
        all_goals refine ⟨_, rfl, ?_, ?_, ?_, ?_, ?_⟩
        all_goals first
          | (go_simp; done)
          | (((try simp) <;> omega); done)
          | (exact (by repeat (first | (with_reducible exact Below.refl _ _) | (with_reducible refine Below.drew ?_) | (with_reducible refine below_drewN ?_ _) | ((with_reducible refine Below.alloc ?_ ?_ _); rotate_left; focus ((try simp) <;> omega)) | ((with_reducible refine Below.setCell ?_ ?_ _); rotate_left; focus ((try simp) <;> omega)) | ((with_reducible refine Below.trans ?_ (Below.mono (by assumption) ?_)); rotate_left; focus ((try simp) <;> omega)))))
      case rest =>
        obtain ⟨b, rfl, hbl, hbs, b0, b1, hbx⟩ := hcut
        have hzx := hbx.size
        have hb0 : Hid (Below w.heap.size w wc) := Lib.hid (hbw.trans (hbx.mono hz))
        clear q0 q1 q2 q3 q4 q5 q6 q7
        replace hbw := Lib.hid hbw
        rcases hh : hasL ((l.take k).map Lkr.h) x.run (nameL x.h) with _ | _
        · rw [if_neg (by rw [hh]; decide)] at hat
          have hix := Lib.hid hat
          have hnew := Lib.hid (show ixF ((l.take (k + 1)).map Lkr.h) (keyK x.run (nameL x.h)) = some (k : Int) ∧ ∀ y, y ≠ keyK x.run (nameL x.h) → ixF ((l.take (k + 1)).map Lkr.h) y = ixF ((l.take k).map Lkr.h) y from by
            rw [hla]
            have h1 := ixF_new ((l.take k).map Lkr.h) x.h hh
            rw [List.length_map, List.length_take, Nat.min_eq_left hk] at h1
            exact ⟨h1, fun y hy => ixF_snoc _ _ _ hy⟩)
          replace hat := Lib.hid hat
          replace hla := Lib.hid hla
          replace hh := Lib.hid hh
          go_wp2_with (first
            | (at_lookup; refine wpList_look_mapi rfl (.tmp 24) (.tmp 25) 78 rfl 86 3 keyedK Tryz.underlying78 Tryz.underlying3 (by kernel_rfl) w.heap.size k (ixF ((l.take k).map Lkr.h)) rfl (hmp.out.keep (B := wr.heap.size) (by repeat (first | (with_reducible exact Below.refl _ _) | (with_reducible refine Below.drew ?_) | (with_reducible refine below_drewN ?_ _) | ((with_reducible refine Below.alloc ?_ ?_ _); rotate_left; focus ((try simp) <;> omega)) | ((with_reducible refine Below.setCell ?_ ?_ _); rotate_left; focus ((try simp) <;> omega)) | ((with_reducible refine Below.trans ?_ (Below.mono (by assumption) ?_)); rotate_left; focus ((try simp) <;> omega)))) hmlt) _ (keyK x.run (nameL x.h)) rfl (key_at x.run (nameL x.h)) none hix.out ?_)
            | (at_mapUpdate; refine wpList_put_mapi rfl (.tmp 31) (.tmp 32) (.tmp 33) 78 rfl 86 3 keyedK Tryz.underlying78 Tryz.underlying3 w.heap.size k (ixF ((l.take k).map Lkr.h)) rfl (hmp.out.keep (B := wr.heap.size) (by repeat (first | (with_reducible exact Below.refl _ _) | (with_reducible refine Below.drew ?_) | (with_reducible refine below_drewN ?_ _) | ((with_reducible refine Below.alloc ?_ ?_ _); rotate_left; focus ((try simp) <;> omega)) | ((with_reducible refine Below.setCell ?_ ?_ _); rotate_left; focus ((try simp) <;> omega)) | ((with_reducible refine Below.trans ?_ (Below.mono (by assumption) ?_)); rotate_left; focus ((try simp) <;> omega)))) hmlt) (by simp only [maxLen]; omega) _ (keyK x.run (nameL x.h)) rfl (k : Int) rfl (wf_i64 (by omega)) (key_at x.run (nameL x.h)) trivial (ixF ((l.take (k + 1)).map Lkr.h)) hnew.out ?_; intro w3 hmp3 hg3; have hz3 := hg3.size))
          go_roundw
          case rel => exact ⟨k + 1, hkl, by go_num, hmp3, hb0.out.grown hg3 (by (try simp) <;> omega) (fun q hq => by simp at hq; omega)⟩
          case measure => simp [intOf]; omega
        · rw [if_pos hh] at hat
          have hix := Lib.hid hat
          have hold := Lib.hid (fun y => show ixF ((l.take (k + 1)).map Lkr.h) y = ixF ((l.take k).map Lkr.h) y from by rw [hla]; exact ixF_old _ _ hh y)
          generalize (idxL ((l.take k).map Lkr.h) x.run (nameL x.h) : Int) = J at hix
          replace hla := Lib.hid hla
          replace hat := Lib.hid hat
          replace hh := Lib.hid hh
          go_wp2_with ((at_lookup; refine wpList_look_mapi rfl (.tmp 24) (.tmp 25) 78 rfl 86 3 keyedK Tryz.underlying78 Tryz.underlying3 (by kernel_rfl) w.heap.size k (ixF ((l.take k).map Lkr.h)) rfl (hmp.out.keep (B := wr.heap.size) (by repeat (first | (with_reducible exact Below.refl _ _) | (with_reducible refine Below.drew ?_) | (with_reducible refine below_drewN ?_ _) | ((with_reducible refine Below.alloc ?_ ?_ _); rotate_left; focus ((try simp) <;> omega)) | ((with_reducible refine Below.setCell ?_ ?_ _); rotate_left; focus ((try simp) <;> omega)) | ((with_reducible refine Below.trans ?_ (Below.mono (by assumption) ?_)); rotate_left; focus ((try simp) <;> omega)))) hmlt) _ (keyK x.run (nameL x.h)) rfl (key_at x.run (nameL x.h)) (some J) hix.out ?_))
          go_roundw
          case rel =>
            refine ⟨k + 1, hkl, by go_num, ?_, by first | exact hb0.out | exact (by repeat (first | (with_reducible exact Below.refl _ _) | (with_reducible refine Below.drew ?_) | (with_reducible refine below_drewN ?_ _) | ((with_reducible refine Below.alloc ?_ ?_ _); rotate_left; focus ((try simp) <;> omega)) | ((with_reducible refine Below.setCell ?_ ?_ _); rotate_left; focus ((try simp) <;> omega)) | ((with_reducible refine Below.trans ?_ (Below.mono (by assumption) ?_)); rotate_left; focus ((try simp) <;> omega))))⟩
            obtain ⟨D, ⟨es, clock, h1, h2, h3, h4⟩, h5⟩ := ((hmp.out.keep hbx hmlt).congr hold.out)
            exact ⟨D, ⟨es, clock, h1, h2, by omega, h4⟩, h5⟩
          case measure => simp [intOf]; omega
    · have i1 : ¬ (k : Int) < (l.length : Int) := by omega
      obtain rfl : k = l.length := by omega
      rw [List.take_length] at hmp
      replace hmp := Lib.hid hmp
      go_wp2_with fail
      go_ret
      exact ⟨rfl, hmp.out, hbw⟩
theorem oclone_info : (Tryz.prog.info? 29).map (fun i => (i.zero, i.size, i.bytes)) = some (some (.agg #[.string ByteArray.empty, .int .u64 0, .int .i64 0]), 3, 32) := by kernel_rfl
theorem oclone_nil (n c : Nat) (w : World) :
    Calls Tryz.prog 60 #[.slice none n c] w fun e w' => e = .returned (.slice none 0 0) ∧ w = w' := by
  have hq := fun w => Lib.run_eql_slice_nil (P := Tryz.prog) w 27 29 none n c 0 0 Tryz.underlying27
  go_enter Tryz.func60, Tryz.ntmps60
  go_wp2
  go_ret
  exact ⟨rfl, rfl⟩
theorem oclone_some (a : Addr) (c : Nat) (l : List OutR) (w : World) (hr : Rw outRE 3 w w.heap.size (some a) l) (hn : l.length * 32 ≤ 140737488355328) :
    Calls Tryz.prog 60 #[.slice (some a) l.length c] w fun e w' => ∃ v, e = .returned v ∧ Own outRE 3 29 w' w.heap.size v l ∧ v ≠ .slice none 0 0 ∧ Below w.heap.size w w' := by
  have hq := fun w => Lib.run_eql_slice_nil (P := Tryz.prog) w 27 29 (some a) l.length c 0 0 Tryz.underlying27
  obtain ⟨i0, hi, hz0, hz1, hz2⟩ := info_parts oclone_info
  go_enter Tryz.func60, Tryz.ntmps60
  go_wp2_with (first
    | (at_builtin
       refine wpList_append_rw _ rfl (.tmp 5) (.tmp 6) _ rfl outRE_len outRE_one w.heap.size 29 i0 _ 32 Tryz.underlying27 hi hz0 hz1 hz2 rfl (by omega) (.slice (some ⟨w.heap.size, 0, none⟩) 0 0) [] rfl
         ?_ w.heap.size (some a) l.length c l rfl rfl (hr.alloc (Nat.le_refl _) _) ?_ ?_ ?_ ?_
       · exact Own.lit (enc := outRE) (l := []) #[] (Nat.le_refl _) (by simp) (by simp) outRE_len
       · simp [maxLen]; omega
       · simpa using hn
       · simp
       intro v1 w1 hown1 hg1 hat1))
  go_ret
  refine ⟨v1, rfl, by simpa using hown1, ?_, ?_⟩
  · rintro rfl
    rcases hat1 with h | h <;> simp [Value.ownBlock] at h
  · exact ((Below.refl _ _).alloc (Nat.le_refl _) _).grown hg1 (by simp) (fun g hg => by simp [Value.ownBlock] at hg; omega)
theorem oclone_own (A : Option Addr) (c : Nat) (l : List OutR) (w : World) (hr : Rw outRE 3 w w.heap.size A l) (hn : l.length ≤ 1000000) :
    Calls Tryz.prog 60 #[.slice A l.length c] w fun e w' => ∃ A' C', e = .returned (.slice A' l.length C') ∧ Own outRE 3 29 w' w.heap.size (.slice A' l.length C') l ∧ Below w.heap.size w w' := by
  rcases A with _ | a
  · obtain rfl := rw_none hr
    refine (oclone_nil _ _ w).mono ?_
    rintro e w1 ⟨rfl, rfl⟩
    exact ⟨none, 0, rfl, Own.nil _ _ _, Below.refl _ _⟩
  · refine (oclone_some a c l w hr (by omega)).mono ?_
    rintro e w1 ⟨v, rfl, hown, _, hb1⟩
    obtain ⟨A1, c1, rfl, _, _, _⟩ := hown.form
    exact ⟨A1, c1, rfl, hown, hb1⟩
def atIns (x : Lkr) (A : Option Addr) (C : Nat) : Lkr := { x with insA := A, insC := C }
theorem h_atIns (x : Lkr) (A : Option Addr) (C : Nat) : (atIns x A C).h = x.h := rfl
set_option maxRecDepth 100000 in
set_option maxHeartbeats 2000000 in
theorem link_any (x : Lkr) (w : World) (hx : LabLkr w w.heap.size x) (hn : x.ins.length ≤ 1000000) :
    Calls Tryz.prog 32 #[.agg #[.string x.run.1, .string x.job.1, .int .i64 x.attempt.1, .int .u64 x.spec.1, .slice x.insA x.ins.length x.insC, .string x.name.1, .int .u64 x.digest.1, .int .i64 x.size.1]] w fun e w' => ∃ A' C', e = .returned (.agg #[.string x.run.1, .string x.job.1, .int .i64 x.attempt.1, .int .u64 x.spec.1, .slice A' x.ins.length C', .string x.name.1, .int .u64 x.digest.1, .int .i64 x.size.1]) ∧ Own outRE 3 29 w' w.heap.size (.slice A' x.ins.length C') x.ins ∧ Below w.heap.size w w' := by
  have hc := Lib.hid (fun W (hb : Below w.heap.size w W) => oclone_own x.insA x.insC x.ins W ((hx.2.2.below hb (Nat.le_refl _)).more hb.size) hn)
  clear hx
  go_enter Tryz.func32, Tryz.ntmps32
  go_wp2_with (go_at_call 60; go_must (refine (hc.out _ (by repeat (first | (with_reducible exact Below.refl _ _) | (with_reducible refine Below.drew ?_) | (with_reducible refine below_drewN ?_ _) | ((with_reducible refine Below.alloc ?_ ?_ _); rotate_left; focus ((try simp) <;> omega)) | ((with_reducible refine Below.setCell ?_ ?_ _); rotate_left; focus ((try simp) <;> omega)) | ((with_reducible refine Below.trans ?_ (Below.mono (by assumption) ?_)); rotate_left; focus ((try simp) <;> omega))))).mono ?_; rintro e w1 ⟨A1, C1, rfl, hown, hb1⟩; have hz1 := hb1.size; (try simp at hz1); obtain ⟨hc1, hf1⟩ := blk_at hb1 w.heap.size (by (try simp) <;> omega); obtain ⟨hc2, hf2⟩ := blk_at hb1 (w.heap.size + 1) (by (try simp) <;> omega); have hlt := hown.lt; simp only [World.size_alloc] at hlt))
  refine bodyPost_ret (v := .agg #[.string x.run.1, .string x.job.1, .int .i64 x.attempt.1, .int .u64 x.spec.1, .slice A1 x.ins.length C1, .string x.name.1, .int .u64 x.digest.1, .int .i64 x.size.1]) (by simp [results, Tryz.results32, go_sem, hc2]) rfl ⟨A1, C1, rfl, ?_, (by repeat (first | (with_reducible exact Below.refl _ _) | (with_reducible refine Below.drew ?_) | (with_reducible refine below_drewN ?_ _) | ((with_reducible refine Below.alloc ?_ ?_ _); rotate_left; focus ((try simp) <;> omega)) | ((with_reducible refine Below.setCell ?_ ?_ _); rotate_left; focus ((try simp) <;> omega)) | ((with_reducible refine Below.trans ?_ (Below.mono (by assumption) ?_)); rotate_left; focus ((try simp) <;> omega))))⟩
  replace hown : Own outRE 3 29 w1 w.heap.size (.slice A1 x.ins.length C1) x.ins := own_base hown (by (try simp) <;> omega)
  repeat (refine Own.setCell ?_ (fun g hg => by have := (hlt g hg).1; show g ≠ _; (try simp) <;> omega) _)
  exact hown
end Go.Proofs.YtjkijknjngiieaaGreatDoor
