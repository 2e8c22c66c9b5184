/-
  The walks of provenance: all links checked, by the program.
-/
import Derived.Test.YtjkijknjngiieaaGreatDoorPrw12


namespace Go.Proofs.YtjkijknjngiieaaGreatDoor
open Go.RowKit Go.Maps

theorem MapI.update {P : Program} {w : World} {b n : Nat} {F G : Lit → Option Int} {k e t : TypeId} {kl : Lit} (hown : MapI P k e w b n F) (KP : Keyed P k) (ht : P.underlying t = some (.map k e)) (he : P.underlying e = some (.int .i64)) (hn : n < maxLen) {key : Value} {c : Int} (hc : (Lit.int .i64 c).wf = true) (hkey : keyOf P k key = some kl) (hkl : WideAt.IsKeyLit kl) (hG : G kl = some c ∧ ∀ x, x ≠ kl → G x = F x) :
    ∃ w', (Instr.mapUpdate t (.map (some b)) key (.int .i64 c)).run P w = .ok () w' ∧ MapI P k e w' b (n + 1) G ∧ w.grownBy w' (some b) := by
  obtain ⟨D, h1, h2, h3⟩ := hown
  obtain ⟨w', hrun, r1, r2⟩ := h1.update KP ht hn hkey (plainElem_int he hc)
  refine ⟨w', hrun, ⟨_, r1, h2.put _ _, fun y => ?_⟩, r2⟩
  by_cases hy : y = kl
  · subst hy
    rw [hG.1]
    exact ⟨has_put_same h2 hkl _, atKey_put_same h2 hkl _ _⟩
  · rw [hG.2 y hy, has_put_other hy, atKey_put_other hy]
    exact h3 y
theorem ver_stop {all r : List Lnk} {l : Lnk} {k : Nat} {L : List Lkr} {x : Lkr} (hx : L[k]? = some x) : (L.drop k).map Lkr.h = x.h :: (L.drop (k + 1)).map Lkr.h := by rw [drop_at hx]; rfl
set_option maxRecDepth 100000 in
set_option maxHeartbeats 8000000 in
theorem verify_any (A : Option Addr) (c : Nat) (l : List Lkr) (w : World) (hr : RwL w w.heap.size A l) (hm : MildL l) (hlc : l.length ≤ c) (hG : Glob w) :
    Calls Tryz.prog 21 #[.slice A l.length c] w fun e w' => e = .returned (.int .i64 (verErr [] (l.map Lkr.h))) ∧ Below w.heap.size w w' := by
  obtain ⟨R, hR⟩ : ∃ R, verErr [] (l.map Lkr.h) = R := ⟨_, rfl⟩
  rw [hR]
  have hck0 : Hid (∀ (k : Nat) (x : Lkr) (W : World), k ≤ l.length → l[k]? = some x → Below w.heap.size w W → MapI Tryz.prog 86 3 W w.heap.size k (ixF ((l.take k).map Lkr.h)) → Calls Tryz.prog 33 #[.slice A k c, .map (some w.heap.size), .agg #[.string x.run.1, .string x.job.1, .int .i64 x.attempt.1, .int .u64 x.spec.1, .slice x.insA x.ins.length x.insC, .string x.name.1, .int .u64 x.digest.1, .int .i64 x.size.1]] W fun e w' => e = .returned (.int .i64 (lnkErr ((l.take k).map Lkr.h) x.h)) ∧ Below W.heap.size W w') := Lib.hid fun k x W hk hx hb hmp => by
    have hxm := List.mem_of_getElem? hx
    have h := check_any A c (l.take k) w.heap.size k x W ((hr.row.take.below hb (Nat.le_refl _)).more hb.size) (by rw [List.length_take]; have := hm.len; omega) hmp (((hr.labs x hxm).below hb (Nat.le_refl _)).more hb.size) (hG.keep hb) (hm.each x hxm)
    rw [List.length_take, Nat.min_eq_left hk] at h
    exact h
  have hln0 : Hid (∀ x ∈ l, ∀ W, Calls Tryz.prog 46 #[.agg #[.string x.run.1, .string x.job.1, .int .i64 x.attempt.1, .int .u64 x.spec.1, .slice x.insA x.ins.length x.insC, .string x.name.1, .int .u64 x.digest.1, .int .i64 x.size.1]] W fun e w' => e = .returned (.string (nameL x.h).1) ∧ Below W.heap.size W w') := Lib.hid fun x hx W => lname_any x W (hm.each x hx).nm
  have hrow := Lib.hid hr.row
  have hlen := hm.len
  have hmm := @run_makeMap Tryz.prog
  replace hR := Lib.hid hR
  clear hr hm hG
  go_enter Tryz.func21, Tryz.ntmps21
  go_wp2_with fail
  clear hmm
  go_loopw [10] (fun vi wr => ∃ k : Nat, k ≤ l.length ∧ vi = .int .i64 (k : Int) ∧ MapI Tryz.prog 86 3 wr w.heap.size k (ixF ((l.take k).map Lkr.h)) ∧ verErr ((l.take k).map Lkr.h) ((l.drop k).map Lkr.h) = R ∧ Below w.heap.size w wr) (fun vi _ => l.length - (intOf vi).toNat)
  case atStart => exact ⟨0, Nat.zero_le _, rfl, MapI.made w Tryz.prog 86 3, hR.out, (Below.refl _ _).alloc (Nat.le_refl _) _⟩
  case round =>
    obtain ⟨k, hk, rfl, hmp, hst, hbw⟩ := hrel
    have hz := hbw.size
    have hmlt := hmp.lt
    by_cases hkl : k < l.length
    · obtain ⟨x, hx⟩ := get_some hkl
      obtain ⟨g, o, rfl, hg, hq⟩ := hrow.out (by omega)
      have q0 := (hbw.cell (p := ⟨g, o + k * 8 + 0, none⟩) hg).trans (hq k x hx 0 (.string x.run.1) rfl)
      rw [Nat.add_zero] at q0
      have q1 := (hbw.cell (p := ⟨g, o + k * 8 + 1, none⟩) hg).trans (hq k x hx 1 (.string x.job.1) rfl)
      have q2 := (hbw.cell (p := ⟨g, o + k * 8 + 2, none⟩) hg).trans (hq k x hx 2 (.int .i64 x.attempt.1) rfl)
      have q3 := (hbw.cell (p := ⟨g, o + k * 8 + 3, none⟩) hg).trans (hq k x hx 3 (.int .u64 x.spec.1) rfl)
      have q4 := (hbw.cell (p := ⟨g, o + k * 8 + 4, none⟩) hg).trans (hq k x hx 4 (.slice x.insA x.ins.length x.insC) rfl)
      have q5 := (hbw.cell (p := ⟨g, o + k * 8 + 5, none⟩) hg).trans (hq k x hx 5 (.string x.name.1) rfl)
      have q6 := (hbw.cell (p := ⟨g, o + k * 8 + 6, none⟩) hg).trans (hq k x hx 6 (.int .u64 x.digest.1) rfl)
      have q7 := (hbw.cell (p := ⟨g, o + k * 8 + 7, none⟩) hg).trans (hq k x hx 7 (.int .i64 x.size.1) rfl)
      clear hq
      have i0 : (0 : Int) ≤ (k : Int) := by omega
      have i1 : (k : Int) < (l.length : Int) := by omega
      have i2 : (k : Int) ≤ (c : Int) := by omega
      have hgr : g < wr.heap.size := by omega
      have hln := Lib.hid (hln0.out x (List.mem_of_getElem? hx))
      have hck1 := fun W hb hmp => hck0.out k x W hk hx hb hmp
      rw [ver_stop (all := []) (r := []) (l := x.h) hx] at hst
      have hla := links_at hx
      obtain ⟨E, hE⟩ : ∃ E, lnkErr ((l.take k).map Lkr.h) x.h = E := ⟨_, rfl⟩
      rw [hE] at hck1
      have hck := Lib.hid hck1
      clear hck1
      replace hmp := Lib.hid hmp
      replace hx := Lib.hid hx
      replace hla := Lib.hid hla
      replace hst := Lib.hid hst
      replace hE := Lib.hid hE
      go_upto_region 5 with fail
      go_cut [6] (fun s6 wx => s6 = .int .i64 E ∧ (wx.cell? ⟨wr.heap.size, 0, none⟩ = some (.string x.run.1) ∧ wx.cell? ⟨wr.heap.size, 1, none⟩ = some (.string x.job.1) ∧ wx.cell? ⟨wr.heap.size, 2, none⟩ = some (.int .i64 x.attempt.1) ∧ wx.cell? ⟨wr.heap.size, 3, none⟩ = some (.int .u64 x.spec.1) ∧ wx.cell? ⟨wr.heap.size, 4, none⟩ = some (.slice x.insA x.ins.length x.insC) ∧ wx.cell? ⟨wr.heap.size, 5, none⟩ = some (.string x.name.1) ∧ wx.cell? ⟨wr.heap.size, 6, none⟩ = some (.int .u64 x.digest.1) ∧ wx.cell? ⟨wr.heap.size, 7, none⟩ = some (.int .i64 x.size.1)) ∧ wr.heap.size < wx.heap.size ∧ Below wr.heap.size wr wx)
      case first =>
        go_region_held3 (fun w' => w'.cell? ⟨wr.heap.size, 0, none⟩ = some (.string x.run.1) ∧ w'.cell? ⟨wr.heap.size, 1, none⟩ = some (.string x.job.1) ∧ w'.cell? ⟨wr.heap.size, 2, none⟩ = some (.int .i64 x.attempt.1) ∧ w'.cell? ⟨wr.heap.size, 3, none⟩ = some (.int .u64 x.spec.1) ∧ w'.cell? ⟨wr.heap.size, 4, none⟩ = some (.slice x.insA x.ins.length x.insC) ∧ w'.cell? ⟨wr.heap.size, 5, none⟩ = some (.string x.name.1) ∧ w'.cell? ⟨wr.heap.size, 6, none⟩ = some (.int .u64 x.digest.1) ∧ w'.cell? ⟨wr.heap.size, 7, none⟩ = some (.int .i64 x.size.1)) (first | (go_keep; done) | (go_simp; done) | go_keep)
          (first
          | (go_at_call 33; go_must (refine (hck.out _ (by repeat (first | (with_reducible exact Below.refl _ _) | (with_reducible refine Below.drew ?_) | (with_reducible refine below_drewN ?_ _) | ((with_reducible refine Below.alloc ?_ ?_ _); rotate_left; focus ((try simp) <;> omega)) | ((with_reducible refine Below.setCell ?_ ?_ _); rotate_left; focus ((try simp) <;> omega)) | ((with_reducible refine Below.trans ?_ (Below.mono (by assumption) ?_)); rotate_left; focus ((try simp) <;> omega)))) (hmp.out.keep (B := wr.heap.size) (by repeat (first | (with_reducible exact Below.refl _ _) | (with_reducible refine Below.drew ?_) | (with_reducible refine below_drewN ?_ _) | ((with_reducible refine Below.alloc ?_ ?_ _); rotate_left; focus ((try simp) <;> omega)) | ((with_reducible refine Below.setCell ?_ ?_ _); rotate_left; focus ((try simp) <;> omega)) | ((with_reducible refine Below.trans ?_ (Below.mono (by assumption) ?_)); rotate_left; focus ((try simp) <;> omega)))) hmlt)).mono ?_; rintro e w2 ⟨rfl, hb2⟩; have hz2 := hb2.size; (try simp at hz2); have hk2 : wr.heap.size < w2.heap.size := (by omega); obtain ⟨hc2, hf2⟩ := blk_at hb2 wr.heap.size (by (try simp) <;> omega)))
          | fail "none")
        all_goals (go_wp2_with fail; go_meet)
        all_goals refine ⟨rfl, ⟨?_, ?_, ?_, ?_, ?_, ?_, ?_, ?_⟩, ?_, ?_⟩
        all_goals first
          | (go_simp; done)
          | (((try simp) <;> omega); done)
          | (exact (by repeat (first | (with_reducible exact Below.refl _ _) | (with_reducible refine Below.drew ?_) | (with_reducible refine below_drewN ?_ _) | ((with_reducible refine Below.alloc ?_ ?_ _); rotate_left; focus ((try simp) <;> omega)) | ((with_reducible refine Below.setCell ?_ ?_ _); rotate_left; focus ((try simp) <;> omega)) | ((with_reducible refine Below.trans ?_ (Below.mono (by assumption) ?_)); rotate_left; focus ((try simp) <;> omega)))))
      case rest =>
        obtain ⟨rfl, ⟨p0, p1, p2, p3, p4, p5, p6, p7⟩, hzx2, hbx⟩ := hcut
        clear q0 q1 q2 q3 q4 q5 q6 q7
        have hb0 : Hid (Below w.heap.size w wc) := Lib.hid (hbw.trans (hbx.mono hz))
        have hzx := hbx.size
        by_cases hE0 : E = 0
        · subst hE0
          obtain ⟨_, hno, _⟩ := lnkErr_ok hE.out
          have hn2 : Hid (verErr ((l.take (k + 1)).map Lkr.h) ((l.drop (k + 1)).map Lkr.h) = R) := Lib.hid (by rw [hla.out, ← ver_at hE.out]; exact hst.out)
          have hnew := Lib.hid (show ixF ((l.take (k + 1)).map Lkr.h) (keyK x.run (nameL x.h)) = some (k : Int) ∧ ∀ y, y ≠ keyK x.run (nameL x.h) → ixF ((l.take (k + 1)).map Lkr.h) y = ixF ((l.take k).map Lkr.h) y from by
            rw [hla.out]
            have h1 := ixF_new ((l.take k).map Lkr.h) x.h hno
            rw [List.length_map, List.length_take, Nat.min_eq_left hk] at h1
            exact ⟨h1, fun y hy => ixF_snoc _ _ _ hy⟩)
          replace hno := Lib.hid hno
          go_upto_region 8 with fail
          go_region_held3 (fun w' => w'.cell? ⟨wr.heap.size, 0, none⟩ = some (.string x.run.1) ∧ w'.cell? ⟨wr.heap.size, 1, none⟩ = some (.string x.job.1) ∧ w'.cell? ⟨wr.heap.size, 2, none⟩ = some (.int .i64 x.attempt.1) ∧ w'.cell? ⟨wr.heap.size, 3, none⟩ = some (.int .u64 x.spec.1) ∧ w'.cell? ⟨wr.heap.size, 4, none⟩ = some (.slice x.insA x.ins.length x.insC) ∧ w'.cell? ⟨wr.heap.size, 5, none⟩ = some (.string x.name.1) ∧ w'.cell? ⟨wr.heap.size, 6, none⟩ = some (.int .u64 x.digest.1) ∧ w'.cell? ⟨wr.heap.size, 7, none⟩ = some (.int .i64 x.size.1)) (first | (go_keep; done) | (go_simp; done) | go_keep)
            (first
            | (go_at_call 46; go_must (refine (hln.out _).mono ?_; rintro e w3 ⟨rfl, hb3⟩; have hz3 := hb3.size; (try simp at hz3); obtain ⟨hc3, hf3⟩ := blk_at hb3 wr.heap.size (by (try simp) <;> omega); obtain ⟨w4, hrun, hmp4, hg4⟩ := MapI.update (t := 78) ((hmp.out.keep hbx hmlt).keep (show Below wc.heap.size wc w3 from (by repeat (first | (with_reducible exact Below.refl _ _) | (with_reducible refine Below.drew ?_) | (with_reducible refine below_drewN ?_ _) | ((with_reducible refine Below.alloc ?_ ?_ _); rotate_left; focus ((try simp) <;> omega)) | ((with_reducible refine Below.setCell ?_ ?_ _); rotate_left; focus ((try simp) <;> omega)) | ((with_reducible refine Below.trans ?_ (Below.mono (by assumption) ?_)); rotate_left; focus ((try simp) <;> omega))))) (by omega)) keyedK Tryz.underlying78 Tryz.underlying3 (by simp only [maxLen]; omega) (wf_i64 (n := (k : Int)) (by omega)) (key_at x.run (nameL x.h)) trivial hnew.out; have hz4 := hg4.size; obtain ⟨e4, f4⟩ := grown_blk hg4 wr.heap.size (by omega) (fun e => by simp at e; omega); replace hmp4 := Lib.hid hmp4; have hbt : Hid (Below w.heap.size wc w4) := Lib.hid (Below.grown (show Below w.heap.size wc w3 from Below.mono (B := wc.heap.size) (by repeat (first | (with_reducible exact Below.refl _ _) | (with_reducible refine Below.drew ?_) | (with_reducible refine below_drewN ?_ _) | ((with_reducible refine Below.alloc ?_ ?_ _); rotate_left; focus ((try simp) <;> omega)) | ((with_reducible refine Below.setCell ?_ ?_ _); rotate_left; focus ((try simp) <;> omega)) | ((with_reducible refine Below.trans ?_ (Below.mono (by assumption) ?_)); rotate_left; focus ((try simp) <;> omega)))) (by omega)) hg4 (by omega) (fun q hq => by simp at hq; omega)); clear hg4))
            | fail "none")
          go_wp2_with fail
          go_roundw
          case rel => exact ⟨k + 1, hkl, by go_num, hmp4.out, hn2.out, hb0.out.trans hbt.out⟩
          case measure => simp [intOf]; omega
        · have hf : Hid (R = E) := Lib.hid (by rw [← hst.out, ver_no (by rw [hE.out]; exact hE0), hE.out])
          have hEb : (E != 0) = true := by rw [bne_iff_ne]; exact hE0
          go_wp2_with fail
          go_ret
          exact ⟨by rw [hf.out]; rfl, hb0.out⟩
    · have i1 : ¬ (k : Int) < (l.length : Int) := by omega
      have hf : Hid (R = 0) := Lib.hid (by rw [← hst, List.drop_eq_nil_of_le (by omega)]; rfl)
      replace hst := Lib.hid hst
      replace hmp := Lib.hid hmp
      go_wp2_with fail
      go_ret
      exact ⟨by rw [hf.out]; rfl, hbw⟩
end Go.Proofs.YtjkijknjngiieaaGreatDoor
