/-
  The walks of workers: a worker that joins, by the reference.
-/
import Derived.Test.YtnahbfmbmpoljaaDoorWk16
import Derived.Test.YtnahbfmbmpoljaaDoorWk20



namespace Go.Proofs.YtnahbfmbmpoljaaDoor
open Go.RowKit

theorem own_ne2 {g' : Nat} {v : Value} (h : v.ownBlock = none ∨ v.ownBlock = some g') {g : Nat} (hg : g < g') : some g ≠ v.ownBlock := by
  rcases h with h | h <;> rw [h] <;> simp <;> omega
set_option maxRecDepth 100000 in
set_option maxHeartbeats 8000000 in
theorem rjoin_any (A : Option Addr) (c : Nat) (l : List Work) (x : Work) (now : I64) (w : World) (hr : RwW w w.heap.size A l) (hx : LabWork w w.heap.size x) (hlc : l.length ≤ c) (hn : l.length ≤ 1000) (ho : ∀ y ∈ l, LabOk y) (hox : LabOk x) :
    Calls Tryd.prog 14 #[.slice A l.length c, (.agg #[.string x.id.1, .slice x.labsA x.labs.length x.labsC, .int .i64 x.trust.1, .int .i64 x.slots.1, .bool x.pre, .int .i64 x.phase.1, .int .i64 x.beat.1, .int .i64 x.till.1, .slice x.toksA x.toks.length x.toksC]), .int .i64 now.1] w fun e w' => ∃ A' c', e = .returned (.tuple #[.slice A' (joinL l x now).length c', .int .i64 (joinE l x now)]) ∧ RwW w' w'.heap.size A' (joinL l x now) ∧ (joinL l x now).length ≤ c' ∧ Below w.heap.size w w' := by
  obtain ⟨inf, hi0, iz0, iz1, iz2⟩ := info_parts work_info
  have hrd : Hid (∀ W, Below w.heap.size w W → RwW W W.heap.size A l) := Lib.hid fun W hb => (hr.below hb (Nat.le_refl _)).more hb.size
  have hxd : Hid (∀ W, Below w.heap.size w W → LabWork W W.heap.size x) := Lib.hid fun W hb => (hx.below hb (Nat.le_refl _)).more hb.size
  have hrw := Lib.hid hr.row
  have hli0 : ∀ W, Below w.heap.size w W → Calls Tryd.prog 40 #[.slice A l.length c] W fun e w' => e = .returned (.bool (rightB l)) ∧ Below W.heap.size W w' := fun W hb => rlist_any A c l W (hrd.out W hb) (by omega) ho
  have htm0 := fun W => rtime_any now.1 W
  have hva0 : ∀ W, Below w.heap.size w W → Calls Tryd.prog 11 #[(.agg #[.string x.id.1, .slice x.labsA x.labs.length x.labsC, .int .i64 x.trust.1, .int .i64 x.slots.1, .bool x.pre, .int .i64 0, .int .i64 now.1, .int .i64 0, .slice none 0 0])] W fun e w' => e = .returned (.int .i64 (wErr (newW x now))) ∧ Below W.heap.size W w' := fun W hb => rwvalid_any (newW x now) W (hxd.out W hb).new (hox.new (now := now))
  have hfd0 : ∀ W, Below w.heap.size w W → Calls Tryd.prog 41 #[.slice A l.length c, .string x.id.1] W fun e w' => e = .returned (.int .i64 (findN x.id l)) ∧ W = w' := fun W hb => rfind_any A c l x.id W (hrd.out W hb).row (by omega)
  clear hr hx ho hox
  rcases hrb : rightB l with _ | _
  · have hE := joinE_1 (x := x) (now := now) hrb
    rw [hE, joinL_no hE (by decide)]
    rw [hrb] at hli0
    have hli := Lib.hid hli0
    have htm := Lib.hid htm0
    have hva := Lib.hid hva0
    have hfd := Lib.hid hfd0
    clear hli0 htm0 hva0 hfd0
    replace hE := Lib.hid hE
    replace hrb := Lib.hid hrb
    go_enter Tryd.func14, Tryd.ntmps14
    go_wp2_with (first
      | (go_at_call 40; go_must (refine (hli.out _ (by repeat (first | (with_reducible exact Below.refl _ _) | (with_reducible refine Below.drew ?_) | (with_reducible refine below_drewN ?_ _) | ((with_reducible refine Below.alloc ?_ ?_ _); rotate_left; focus ((try simp) <;> omega)) | ((with_reducible refine Below.setCell ?_ ?_ _); rotate_left; focus ((try simp) <;> omega)) | ((with_reducible refine Below.trans ?_ (Below.mono (by assumption) ?_)); rotate_left; focus ((try simp) <;> omega))))).mono ?_; rintro e w1 ⟨rfl, hb1⟩; have hz1 := hb1.size; (try simp at hz1); have hz1a : w.heap.size < w1.heap.size := (by omega); obtain ⟨hc1, hf1⟩ := blk_at hb1 w.heap.size (by (try simp) <;> omega)))
      | (go_at_call 32; go_must (refine (htm.out _).mono ?_; rintro e w4 ⟨rfl, rfl⟩))
      | (go_at_call 11; go_must (refine (hva.out _ (by repeat (first | (with_reducible exact Below.refl _ _) | (with_reducible refine Below.drew ?_) | (with_reducible refine below_drewN ?_ _) | ((with_reducible refine Below.alloc ?_ ?_ _); rotate_left; focus ((try simp) <;> omega)) | ((with_reducible refine Below.setCell ?_ ?_ _); rotate_left; focus ((try simp) <;> omega)) | ((with_reducible refine Below.trans ?_ (Below.mono (by assumption) ?_)); rotate_left; focus ((try simp) <;> omega))))).mono ?_; rintro e w2 ⟨rfl, hb2⟩; have hz2 := hb2.size; (try simp at hz2); have hz2a : w1.heap.size < w2.heap.size := (by omega); obtain ⟨hc2, hf2⟩ := blk_at hb2 w1.heap.size (by (try simp) <;> omega); have hb02 : Below w.heap.size w w2 := (by repeat (first | (with_reducible exact Below.refl _ _) | (with_reducible refine Below.drew ?_) | (with_reducible refine below_drewN ?_ _) | ((with_reducible refine Below.alloc ?_ ?_ _); rotate_left; focus ((try simp) <;> omega)) | ((with_reducible refine Below.setCell ?_ ?_ _); rotate_left; focus ((try simp) <;> omega)) | ((with_reducible refine Below.trans ?_ (Below.mono (by assumption) ?_)); rotate_left; focus ((try simp) <;> omega))))))
      | (go_at_call 41; go_must (refine (hfd.out _ (by repeat (first | (with_reducible exact Below.refl _ _) | (with_reducible refine Below.drew ?_) | (with_reducible refine below_drewN ?_ _) | ((with_reducible refine Below.alloc ?_ ?_ _); rotate_left; focus ((try simp) <;> omega)) | ((with_reducible refine Below.setCell ?_ ?_ _); rotate_left; focus ((try simp) <;> omega)) | ((with_reducible refine Below.trans ?_ (Below.mono (by assumption) ?_)); rotate_left; focus ((try simp) <;> omega))))).mono ?_; rintro e w3 ⟨rfl, rfl⟩)))
    exact bodyPost_ret (v := .tuple #[.slice A l.length c, .int .i64 1]) (by simp [results, Tryd.results14, go_sem]) rfl ⟨A, c, rfl, hrd.out _ (by repeat (first | (with_reducible exact Below.refl _ _) | (with_reducible refine Below.drew ?_) | (with_reducible refine below_drewN ?_ _) | ((with_reducible refine Below.alloc ?_ ?_ _); rotate_left; focus ((try simp) <;> omega)) | ((with_reducible refine Below.setCell ?_ ?_ _); rotate_left; focus ((try simp) <;> omega)) | ((with_reducible refine Below.trans ?_ (Below.mono (by assumption) ?_)); rotate_left; focus ((try simp) <;> omega)))), hlc, (by repeat (first | (with_reducible exact Below.refl _ _) | (with_reducible refine Below.drew ?_) | (with_reducible refine below_drewN ?_ _) | ((with_reducible refine Below.alloc ?_ ?_ _); rotate_left; focus ((try simp) <;> omega)) | ((with_reducible refine Below.setCell ?_ ?_ _); rotate_left; focus ((try simp) <;> omega)) | ((with_reducible refine Below.trans ?_ (Below.mono (by assumption) ?_)); rotate_left; focus ((try simp) <;> omega))))⟩
  rw [hrb] at hli0
  have hli := Lib.hid hli0
  clear hli0
  have hasc := right_asc hrb
  have hl256 := right_len hrb
  rcases htb : timeB now.1 with _ | _
  · have hE := joinE_2 (x := x) (now := now) hrb htb
    rw [hE, joinL_no hE (by decide)]
    rw [htb] at htm0
    have htm := Lib.hid htm0
    have hva := Lib.hid hva0
    have hfd := Lib.hid hfd0
    clear htm0 hva0 hfd0
    replace hE := Lib.hid hE
    replace hrb := Lib.hid hrb
    replace htb := Lib.hid htb
    go_enter Tryd.func14, Tryd.ntmps14
    go_wp2_with (first
      | (go_at_call 40; go_must (refine (hli.out _ (by repeat (first | (with_reducible exact Below.refl _ _) | (with_reducible refine Below.drew ?_) | (with_reducible refine below_drewN ?_ _) | ((with_reducible refine Below.alloc ?_ ?_ _); rotate_left; focus ((try simp) <;> omega)) | ((with_reducible refine Below.setCell ?_ ?_ _); rotate_left; focus ((try simp) <;> omega)) | ((with_reducible refine Below.trans ?_ (Below.mono (by assumption) ?_)); rotate_left; focus ((try simp) <;> omega))))).mono ?_; rintro e w1 ⟨rfl, hb1⟩; have hz1 := hb1.size; (try simp at hz1); have hz1a : w.heap.size < w1.heap.size := (by omega); obtain ⟨hc1, hf1⟩ := blk_at hb1 w.heap.size (by (try simp) <;> omega)))
      | (go_at_call 32; go_must (refine (htm.out _).mono ?_; rintro e w4 ⟨rfl, rfl⟩))
      | (go_at_call 11; go_must (refine (hva.out _ (by repeat (first | (with_reducible exact Below.refl _ _) | (with_reducible refine Below.drew ?_) | (with_reducible refine below_drewN ?_ _) | ((with_reducible refine Below.alloc ?_ ?_ _); rotate_left; focus ((try simp) <;> omega)) | ((with_reducible refine Below.setCell ?_ ?_ _); rotate_left; focus ((try simp) <;> omega)) | ((with_reducible refine Below.trans ?_ (Below.mono (by assumption) ?_)); rotate_left; focus ((try simp) <;> omega))))).mono ?_; rintro e w2 ⟨rfl, hb2⟩; have hz2 := hb2.size; (try simp at hz2); have hz2a : w1.heap.size < w2.heap.size := (by omega); obtain ⟨hc2, hf2⟩ := blk_at hb2 w1.heap.size (by (try simp) <;> omega); have hb02 : Below w.heap.size w w2 := (by repeat (first | (with_reducible exact Below.refl _ _) | (with_reducible refine Below.drew ?_) | (with_reducible refine below_drewN ?_ _) | ((with_reducible refine Below.alloc ?_ ?_ _); rotate_left; focus ((try simp) <;> omega)) | ((with_reducible refine Below.setCell ?_ ?_ _); rotate_left; focus ((try simp) <;> omega)) | ((with_reducible refine Below.trans ?_ (Below.mono (by assumption) ?_)); rotate_left; focus ((try simp) <;> omega))))))
      | (go_at_call 41; go_must (refine (hfd.out _ (by repeat (first | (with_reducible exact Below.refl _ _) | (with_reducible refine Below.drew ?_) | (with_reducible refine below_drewN ?_ _) | ((with_reducible refine Below.alloc ?_ ?_ _); rotate_left; focus ((try simp) <;> omega)) | ((with_reducible refine Below.setCell ?_ ?_ _); rotate_left; focus ((try simp) <;> omega)) | ((with_reducible refine Below.trans ?_ (Below.mono (by assumption) ?_)); rotate_left; focus ((try simp) <;> omega))))).mono ?_; rintro e w3 ⟨rfl, rfl⟩)))
    exact bodyPost_ret (v := .tuple #[.slice A l.length c, .int .i64 2]) (by simp [results, Tryd.results14, go_sem]) rfl ⟨A, c, rfl, hrd.out _ (by repeat (first | (with_reducible exact Below.refl _ _) | (with_reducible refine Below.drew ?_) | (with_reducible refine below_drewN ?_ _) | ((with_reducible refine Below.alloc ?_ ?_ _); rotate_left; focus ((try simp) <;> omega)) | ((with_reducible refine Below.setCell ?_ ?_ _); rotate_left; focus ((try simp) <;> omega)) | ((with_reducible refine Below.trans ?_ (Below.mono (by assumption) ?_)); rotate_left; focus ((try simp) <;> omega)))), hlc, (by repeat (first | (with_reducible exact Below.refl _ _) | (with_reducible refine Below.drew ?_) | (with_reducible refine below_drewN ?_ _) | ((with_reducible refine Below.alloc ?_ ?_ _); rotate_left; focus ((try simp) <;> omega)) | ((with_reducible refine Below.setCell ?_ ?_ _); rotate_left; focus ((try simp) <;> omega)) | ((with_reducible refine Below.trans ?_ (Below.mono (by assumption) ?_)); rotate_left; focus ((try simp) <;> omega))))⟩
  rw [htb] at htm0
  have htm := Lib.hid htm0
  clear htm0
  by_cases hwe : wErr (newW x now) = 0
  · have hE0 := joinE_4 hrb htb hwe
    rw [hwe] at hva0
    have hva := Lib.hid hva0
    clear hva0
    replace hrb := Lib.hid hrb
    replace htb := Lib.hid htb
    replace hwe := Lib.hid hwe
    rcases find_cases hasc x.id with ⟨hia, hfp, y, hy, hyx⟩ | ⟨hia, hfp, hpl, hle, hno⟩
    · rw [if_pos (by omega)] at hE0
      rw [hE0, joinL_no hE0 (by decide)]
      obtain ⟨K, hK⟩ : ∃ K : Int, findN x.id l = K := ⟨_, rfl⟩
      have hK0 : 0 ≤ K := by omega
      have hK1 : K ≥ 0 := by omega
      rw [hK] at hfd0
      have hfd := Lib.hid hfd0
      clear hfd0 hasc
      replace hE0 := Lib.hid hE0
      replace hia := Lib.hid hia
      replace hfp := Lib.hid hfp
      replace hK := Lib.hid hK
      replace hy := Lib.hid hy
      replace hyx := Lib.hid hyx
      go_enter Tryd.func14, Tryd.ntmps14
      go_wp2_with (first
        | (go_at_call 40; go_must (refine (hli.out _ (by repeat (first | (with_reducible exact Below.refl _ _) | (with_reducible refine Below.drew ?_) | (with_reducible refine below_drewN ?_ _) | ((with_reducible refine Below.alloc ?_ ?_ _); rotate_left; focus ((try simp) <;> omega)) | ((with_reducible refine Below.setCell ?_ ?_ _); rotate_left; focus ((try simp) <;> omega)) | ((with_reducible refine Below.trans ?_ (Below.mono (by assumption) ?_)); rotate_left; focus ((try simp) <;> omega))))).mono ?_; rintro e w1 ⟨rfl, hb1⟩; have hz1 := hb1.size; (try simp at hz1); have hz1a : w.heap.size < w1.heap.size := (by omega); obtain ⟨hc1, hf1⟩ := blk_at hb1 w.heap.size (by (try simp) <;> omega)))
        | (go_at_call 32; go_must (refine (htm.out _).mono ?_; rintro e w4 ⟨rfl, rfl⟩))
        | (go_at_call 11; go_must (refine (hva.out _ (by repeat (first | (with_reducible exact Below.refl _ _) | (with_reducible refine Below.drew ?_) | (with_reducible refine below_drewN ?_ _) | ((with_reducible refine Below.alloc ?_ ?_ _); rotate_left; focus ((try simp) <;> omega)) | ((with_reducible refine Below.setCell ?_ ?_ _); rotate_left; focus ((try simp) <;> omega)) | ((with_reducible refine Below.trans ?_ (Below.mono (by assumption) ?_)); rotate_left; focus ((try simp) <;> omega))))).mono ?_; rintro e w2 ⟨rfl, hb2⟩; have hz2 := hb2.size; (try simp at hz2); have hz2a : w1.heap.size < w2.heap.size := (by omega); obtain ⟨hc2, hf2⟩ := blk_at hb2 w1.heap.size (by (try simp) <;> omega); have hb02 : Below w.heap.size w w2 := (by repeat (first | (with_reducible exact Below.refl _ _) | (with_reducible refine Below.drew ?_) | (with_reducible refine below_drewN ?_ _) | ((with_reducible refine Below.alloc ?_ ?_ _); rotate_left; focus ((try simp) <;> omega)) | ((with_reducible refine Below.setCell ?_ ?_ _); rotate_left; focus ((try simp) <;> omega)) | ((with_reducible refine Below.trans ?_ (Below.mono (by assumption) ?_)); rotate_left; focus ((try simp) <;> omega))))))
        | (go_at_call 41; go_must (refine (hfd.out _ (by repeat (first | (with_reducible exact Below.refl _ _) | (with_reducible refine Below.drew ?_) | (with_reducible refine below_drewN ?_ _) | ((with_reducible refine Below.alloc ?_ ?_ _); rotate_left; focus ((try simp) <;> omega)) | ((with_reducible refine Below.setCell ?_ ?_ _); rotate_left; focus ((try simp) <;> omega)) | ((with_reducible refine Below.trans ?_ (Below.mono (by assumption) ?_)); rotate_left; focus ((try simp) <;> omega))))).mono ?_; rintro e w3 ⟨rfl, rfl⟩)))
      exact bodyPost_ret (v := .tuple #[.slice A l.length c, .int .i64 7]) (by simp [results, Tryd.results14, go_sem]) rfl ⟨A, c, rfl, hrd.out _ (by repeat (first | (with_reducible exact Below.refl _ _) | (with_reducible refine Below.drew ?_) | (with_reducible refine below_drewN ?_ _) | ((with_reducible refine Below.alloc ?_ ?_ _); rotate_left; focus ((try simp) <;> omega)) | ((with_reducible refine Below.setCell ?_ ?_ _); rotate_left; focus ((try simp) <;> omega)) | ((with_reducible refine Below.trans ?_ (Below.mono (by assumption) ?_)); rotate_left; focus ((try simp) <;> omega)))), hlc, (by repeat (first | (with_reducible exact Below.refl _ _) | (with_reducible refine Below.drew ?_) | (with_reducible refine below_drewN ?_ _) | ((with_reducible refine Below.alloc ?_ ?_ _); rotate_left; focus ((try simp) <;> omega)) | ((with_reducible refine Below.setCell ?_ ?_ _); rotate_left; focus ((try simp) <;> omega)) | ((with_reducible refine Below.trans ?_ (Below.mono (by assumption) ?_)); rotate_left; focus ((try simp) <;> omega))))⟩
    · rw [if_neg (by omega)] at hE0
      rw [hfp] at hfd0
      have hfd := Lib.hid hfd0
      clear hfd0 hasc hno
      replace hia := Lib.hid hia
      replace hfp := Lib.hid hfp
      by_cases h6 : 256 ≤ l.length
      · rw [if_pos h6] at hE0
        rw [hE0, joinL_no hE0 (by decide)]
        have hlq : (l.length : Int) ≥ 256 := by omega
        replace hE0 := Lib.hid hE0
        replace hpl := Lib.hid hpl
        go_enter Tryd.func14, Tryd.ntmps14
        go_wp2_with (first
          | (go_at_call 40; go_must (refine (hli.out _ (by repeat (first | (with_reducible exact Below.refl _ _) | (with_reducible refine Below.drew ?_) | (with_reducible refine below_drewN ?_ _) | ((with_reducible refine Below.alloc ?_ ?_ _); rotate_left; focus ((try simp) <;> omega)) | ((with_reducible refine Below.setCell ?_ ?_ _); rotate_left; focus ((try simp) <;> omega)) | ((with_reducible refine Below.trans ?_ (Below.mono (by assumption) ?_)); rotate_left; focus ((try simp) <;> omega))))).mono ?_; rintro e w1 ⟨rfl, hb1⟩; have hz1 := hb1.size; (try simp at hz1); have hz1a : w.heap.size < w1.heap.size := (by omega); obtain ⟨hc1, hf1⟩ := blk_at hb1 w.heap.size (by (try simp) <;> omega)))
          | (go_at_call 32; go_must (refine (htm.out _).mono ?_; rintro e w4 ⟨rfl, rfl⟩))
          | (go_at_call 11; go_must (refine (hva.out _ (by repeat (first | (with_reducible exact Below.refl _ _) | (with_reducible refine Below.drew ?_) | (with_reducible refine below_drewN ?_ _) | ((with_reducible refine Below.alloc ?_ ?_ _); rotate_left; focus ((try simp) <;> omega)) | ((with_reducible refine Below.setCell ?_ ?_ _); rotate_left; focus ((try simp) <;> omega)) | ((with_reducible refine Below.trans ?_ (Below.mono (by assumption) ?_)); rotate_left; focus ((try simp) <;> omega))))).mono ?_; rintro e w2 ⟨rfl, hb2⟩; have hz2 := hb2.size; (try simp at hz2); have hz2a : w1.heap.size < w2.heap.size := (by omega); obtain ⟨hc2, hf2⟩ := blk_at hb2 w1.heap.size (by (try simp) <;> omega); have hb02 : Below w.heap.size w w2 := (by repeat (first | (with_reducible exact Below.refl _ _) | (with_reducible refine Below.drew ?_) | (with_reducible refine below_drewN ?_ _) | ((with_reducible refine Below.alloc ?_ ?_ _); rotate_left; focus ((try simp) <;> omega)) | ((with_reducible refine Below.setCell ?_ ?_ _); rotate_left; focus ((try simp) <;> omega)) | ((with_reducible refine Below.trans ?_ (Below.mono (by assumption) ?_)); rotate_left; focus ((try simp) <;> omega))))))
          | (go_at_call 41; go_must (refine (hfd.out _ (by repeat (first | (with_reducible exact Below.refl _ _) | (with_reducible refine Below.drew ?_) | (with_reducible refine below_drewN ?_ _) | ((with_reducible refine Below.alloc ?_ ?_ _); rotate_left; focus ((try simp) <;> omega)) | ((with_reducible refine Below.setCell ?_ ?_ _); rotate_left; focus ((try simp) <;> omega)) | ((with_reducible refine Below.trans ?_ (Below.mono (by assumption) ?_)); rotate_left; focus ((try simp) <;> omega))))).mono ?_; rintro e w3 ⟨rfl, rfl⟩)))
        exact bodyPost_ret (v := .tuple #[.slice A l.length c, .int .i64 21]) (by simp [results, Tryd.results14, go_sem]) rfl ⟨A, c, rfl, hrd.out _ (by repeat (first | (with_reducible exact Below.refl _ _) | (with_reducible refine Below.drew ?_) | (with_reducible refine below_drewN ?_ _) | ((with_reducible refine Below.alloc ?_ ?_ _); rotate_left; focus ((try simp) <;> omega)) | ((with_reducible refine Below.setCell ?_ ?_ _); rotate_left; focus ((try simp) <;> omega)) | ((with_reducible refine Below.trans ?_ (Below.mono (by assumption) ?_)); rotate_left; focus ((try simp) <;> omega)))), hlc, (by repeat (first | (with_reducible exact Below.refl _ _) | (with_reducible refine Below.drew ?_) | (with_reducible refine below_drewN ?_ _) | ((with_reducible refine Below.alloc ?_ ?_ _); rotate_left; focus ((try simp) <;> omega)) | ((with_reducible refine Below.setCell ?_ ?_ _); rotate_left; focus ((try simp) <;> omega)) | ((with_reducible refine Below.trans ?_ (Below.mono (by assumption) ?_)); rotate_left; focus ((try simp) <;> omega))))⟩
      · rw [if_neg h6] at hE0
        have hL0 := joinL_ok hE0
        rw [hE0]
        obtain ⟨L, hLL⟩ : ∃ L, joinL l x now = L := ⟨_, rfl⟩
        rw [hLL] at hL0 ⊢
        have hL := Lib.hid hL0
        clear hL0
        replace hLL := Lib.hid hLL
        have hlq : ¬ (l.length : Int) ≥ 256 := by omega
        replace hE0 := Lib.hid hE0
        replace hpl := Lib.hid hpl
        clear hle
        go_enter Tryd.func14, Tryd.ntmps14
        go_wp2_with (first
          | (go_at_call 40; go_must (refine (hli.out _ (by repeat (first | (with_reducible exact Below.refl _ _) | (with_reducible refine Below.drew ?_) | (with_reducible refine below_drewN ?_ _) | ((with_reducible refine Below.alloc ?_ ?_ _); rotate_left; focus ((try simp) <;> omega)) | ((with_reducible refine Below.setCell ?_ ?_ _); rotate_left; focus ((try simp) <;> omega)) | ((with_reducible refine Below.trans ?_ (Below.mono (by assumption) ?_)); rotate_left; focus ((try simp) <;> omega))))).mono ?_; rintro e w1 ⟨rfl, hb1⟩; have hz1 := hb1.size; (try simp at hz1); have hz1a : w.heap.size < w1.heap.size := (by omega); obtain ⟨hc1, hf1⟩ := blk_at hb1 w.heap.size (by (try simp) <;> omega)))
          | (go_at_call 32; go_must (refine (htm.out _).mono ?_; rintro e w4 ⟨rfl, rfl⟩))
          | (go_at_call 11; go_must (refine (hva.out _ (by repeat (first | (with_reducible exact Below.refl _ _) | (with_reducible refine Below.drew ?_) | (with_reducible refine below_drewN ?_ _) | ((with_reducible refine Below.alloc ?_ ?_ _); rotate_left; focus ((try simp) <;> omega)) | ((with_reducible refine Below.setCell ?_ ?_ _); rotate_left; focus ((try simp) <;> omega)) | ((with_reducible refine Below.trans ?_ (Below.mono (by assumption) ?_)); rotate_left; focus ((try simp) <;> omega))))).mono ?_; rintro e w2 ⟨rfl, hb2⟩; have hz2 := hb2.size; (try simp at hz2); have hz2a : w1.heap.size < w2.heap.size := (by omega); obtain ⟨hc2, hf2⟩ := blk_at hb2 w1.heap.size (by (try simp) <;> omega); have hb02 : Below w.heap.size w w2 := (by repeat (first | (with_reducible exact Below.refl _ _) | (with_reducible refine Below.drew ?_) | (with_reducible refine below_drewN ?_ _) | ((with_reducible refine Below.alloc ?_ ?_ _); rotate_left; focus ((try simp) <;> omega)) | ((with_reducible refine Below.setCell ?_ ?_ _); rotate_left; focus ((try simp) <;> omega)) | ((with_reducible refine Below.trans ?_ (Below.mono (by assumption) ?_)); rotate_left; focus ((try simp) <;> omega))))))
          | (go_at_call 41; go_must (refine (hfd.out _ (by repeat (first | (with_reducible exact Below.refl _ _) | (with_reducible refine Below.drew ?_) | (with_reducible refine below_drewN ?_ _) | ((with_reducible refine Below.alloc ?_ ?_ _); rotate_left; focus ((try simp) <;> omega)) | ((with_reducible refine Below.setCell ?_ ?_ _); rotate_left; focus ((try simp) <;> omega)) | ((with_reducible refine Below.trans ?_ (Below.mono (by assumption) ?_)); rotate_left; focus ((try simp) <;> omega))))).mono ?_; rintro e w3 ⟨rfl, rfl⟩)))
        replace hb02 := Lib.hid hb02
        have hrow : Hid (∀ W, Below w2.heap.size w2 W → Rw workE 9 W w.heap.size A l) := Lib.hid fun W hb => hrw.out.below (hb02.out.trans (hb.mono (by omega))) (Nat.le_refl _)
        have hxw : ∀ {W : World}, Below w2.heap.size w2 W → ∀ j u, (workE (newW x now))[j]? = some u → W.cell? ⟨w1.heap.size, j, none⟩ = some u := fun hb j u hu => (hb.cell (p := ⟨w1.heap.size, j, none⟩) (by show w1.heap.size < _; omega)).trans ((hc2 j).trans (box_cells w1 _ _ j u hu))
        go_loopw [10] (fun vi wr => ∃ k : Nat, k ≤ l.length ∧ vi = .int .i64 (k : Int) ∧ (∀ j y, j < k → l[j]? = some y → cmpS y.id x.id < 0) ∧ Below w2.heap.size w2 wr) (fun vi _ => l.length - (intOf vi).toNat)
        case atStart => exact ⟨0, Nat.zero_le _, rfl, fun j y hj => absurd hj (by omega), Below.refl _ _⟩
        case round =>
          obtain ⟨k, hk, rfl, ht, hbw⟩ := hrel
          have hz := hbw.size
          replace ht := Lib.hid ht
          have a0 := fun d os => cell_regrown (hxw hbw 0 (.string x.id.1) rfl) d os
          by_cases hkl : k < l.length
          · obtain ⟨y, hy⟩ := get_some hkl
            obtain ⟨g, o, rfl, hgB, hq⟩ := hrow.out _ hbw (by omega)
            have q0 : wr.cell? ⟨g, o + k * 9, none⟩ = some (.string y.id.1) := by
              have := hq k y hy 0 (.string y.id.1) rfl
              simpa using this
            replace q0 := fun d os => cell_regrown q0 d os
            have i0 : (0 : Int) ≤ (k : Int) := by omega
            have i1 : (k : Int) < (l.length : Int) := by omega
            obtain ⟨C, hC⟩ : ∃ C, cmpS y.id x.id = C := ⟨_, rfl⟩
            have hcm : Hid (∀ W, Calls Tryd.prog 42 #[.string y.id.1, .string x.id.1] W fun e w' => e = .returned (.int .i64 C) ∧ Below W.heap.size W w') := Lib.hid fun W => (rcompare_any _ _ y.id.2 x.id.2 W).mono fun _ _ h => ⟨by rw [h.1, ← hC]; rfl, by obtain ⟨n, e⟩ := h.2; rw [e]; exact below_drewN (Below.refl _ _) _⟩
            clear hq
            by_cases hneg : C < 0
            · replace hC := Lib.hid hC
              replace hy := Lib.hid hy
              go_wp2_with fail
              refine wp_region_quiet_below (by kernel_rfl) (by kernel_rfl) ?_
              repeat (go_big_quiet_step ((go_at_call 42; exact Calls.regrown_of (hcm.out _))))
              refine wpQuiet_nil ?_
              intro w9 hw9
              have hb9 := below_of_regrown hw9
              clear hw9
              have hz9 := hb9.size
              go_wp2_with fail
              go_roundw
              case rel => exact ⟨k + 1, by omega, by go_num, fun j z hj hz => by
                by_cases e : j = k
                · subst e
                  rw [hy.out] at hz
                  obtain rfl : y = z := by simpa using hz
                  rw [hC.out]; exact hneg
                · exact ht.out j z (by omega) hz, hbw.trans (hb9.mono (by omega))⟩
              case measure => simp [intOf]; omega
            · have hstop : Hid (∀ z, l[k]? = some z → ¬ cmpS z.id x.id < 0) := Lib.hid fun z hz => by
                rw [hy] at hz
                obtain rfl : y = z := by simpa using hz
                rw [hC]; exact hneg
              replace hC := Lib.hid hC
              replace hy := Lib.hid hy
              go_wp2_with fail
              refine wp_region_quiet_below (by kernel_rfl) (by kernel_rfl) ?_
              repeat (go_big_quiet_step ((go_at_call 42; exact Calls.regrown_of (hcm.out _))))
              refine wpQuiet_nil ?_
              intro w9 hw9
              have hb9 := below_of_regrown hw9
              clear hw9
              have hz9 := hb9.size
              have hbw9 := hbw.trans (hb9.mono (by omega))
              clear q0 a0
              obtain ⟨A, hA⟩ : ∃ A, some (⟨g, o, none⟩ : Addr) = A := ⟨_, rfl⟩
              rw [hA] at hrow hrd ⊢
              replace hA := Lib.hid hA
              have hpl2 : Hid (plN x.id l = k) := Lib.hid (plN_at hk ht.out fun y hy => by have := hstop.out y hy; omega)
              go_wp2_with (first
                | (at_builtin
                   refine wpList_append_rw _ rfl (.tmp 65) (.tmp 68) _ rfl workE_len workE_one w2.heap.size 25 inf _ 112 Tryd.underlying31 hi0 iz0 iz1 iz2 rfl (by omega) (.slice none 0 0) [] rfl (Own.nil _ _ _) w.heap.size A k c (l.take k) (by rw [List.length_take]; omega) rfl ?_ ?_ ?_ ?_ ?_
                   · exact (hrow.out _ hbw9).take
                   · (try simp [maxLen]) <;> omega
                   · (try simp) <;> omega
                   · (try simp) <;> omega
                   intro v3 w3 hown3 hg3 hat3
                   rw [List.nil_append] at hown3
                   replace hat3 := Lib.hid (show v3.ownBlock = none ∨ v3.ownBlock = some w9.heap.size by simpa [Value.ownBlock] using hat3)
                   have hz3 := hg3.size
                   have hbw3 : Below w2.heap.size w2 w3 := hbw9.grown hg3 (by omega) (fun g hg => by simp [Value.ownBlock] at hg)
                   have hbh3 := Lib.hid hbw3
                   have b0 := hxw hbh3.out 0 (.string x.id.1) rfl
                   have b1 := hxw hbh3.out 1 (.slice x.labsA x.labs.length x.labsC) rfl
                   have b2 := hxw hbh3.out 2 (.int .i64 x.trust.1) rfl
                   have b3 := hxw hbh3.out 3 (.int .i64 x.slots.1) rfl
                   have b4 := hxw hbh3.out 4 (.bool x.pre) rfl
                   have b5 := hxw hbh3.out 5 (.int .i64 0) rfl
                   have b6 := hxw hbh3.out 6 (.int .i64 now.1) rfl
                   have b7 := hxw hbh3.out 7 (.int .i64 0) rfl
                   have b8 := hxw hbh3.out 8 (.slice none 0 0) rfl)
                | (at_builtin
                   refine wpList_append_rw _ rfl (.tmp 70) (.tmp 72) _ rfl workE_len workE_one w2.heap.size 25 inf _ 112 Tryd.underlying31 hi0 iz0 iz1 iz2 rfl (by omega) v3 (l.take k) rfl (hown3.alloc _) _ (some ⟨w3.heap.size, 0, none⟩) 1 1 [newW x now] rfl rfl ((Own.lit (enc := workE) (l := [newW x now]) (base := 0) (workE (newW x now)).toArray (Nat.zero_le _) (by simp [maxLen]) (by simp) workE_len).reads workE_len) ?_ ?_ ?_ ?_
                   · (try simp [maxLen]) <;> omega
                   · (try simp) <;> omega
                   · (try simp) <;> omega
                   intro v4 w4 hown4 hg4 hat4
                   have hz4 := hg4.size
                   simp at hz4
                   have hbw4 : Below w2.heap.size w2 w4 := (hbw3.alloc (by omega) _).grown hg4 (by simp; omega) (fun g hg => by rcases hat3.out with h | h <;> rw [h] at hg <;> simp at hg <;> omega)
                   skip)
                | (at_builtin
                   go_must (refine wpList_append_rw _ rfl (.tmp 74) (.tmp 77) _ rfl workE_len workE_one w2.heap.size 25 inf _ 112 Tryd.underlying31 hi0 iz0 iz1 iz2 rfl (by omega) v4 (l.take k ++ [newW x now]) rfl hown4 w.heap.size _ (l.length - k) _ (l.drop k) (by rw [List.length_drop]) rfl ?_ ?_ ?_ ?_ ?_)
                   · first
                       | exact (hrow.out _ hbw4).drop hlc
                       | (have h := (hrow.out _ hbw4).drop (a := k) hlc; rw [if_neg (by omega)] at h; exact h)
                       | (have h := (hrow.out _ hbw4).drop (a := k) hlc; rw [if_pos (by omega)] at h; exact h)
                   · (try simp [maxLen]) <;> omega
                   · (try simp) <;> omega
                   · (try simp) <;> omega
                   intro v5 w5 hown5 hg5 hat5
                   have hz5 := hg5.size
                   have hbw5 : Below w2.heap.size w2 w5 := hbw4.grown hg5 (by omega) (fun g hg => by
                     rcases hat4 with h | h
                     · rw [h] at hg; rcases hat3.out with h | h <;> rw [h] at hg <;> simp at hg <;> omega
                     · rw [h] at hg; simp at hg; omega)
                   skip))
              all_goals
                have hLe : l.take k ++ [newW x now] ++ l.drop k = L := by rw [hL.out, hpl2.out, List.append_assoc]; rfl
                rw [hLe] at hown5
                obtain ⟨A5, c5, rfl, hc5, hm5, _⟩ := hown5.form
                have hb05 : Below w.heap.size w w5 := hb02.out.trans (hbw5.mono (by omega))
                exact bodyPost_ret (v := .tuple #[.slice A5 L.length c5, .int .i64 0]) (by simp [results, Tryd.results14, go_sem]) rfl ⟨A5, c5, rfl, ⟨hown5.reads workE_len, fun z hz => by
                  rw [hL.out] at hz
                  rcases List.mem_append.1 hz with h | h
                  · exact (hrd.out _ hb05).labs z (List.mem_of_mem_take h)
                  · rcases List.mem_cons.1 h with h | h
                    · subst h; exact (hxd.out _ hb05).new
                    · exact (hrd.out _ hb05).labs z (List.mem_of_mem_drop h)⟩, hc5, hb05⟩
          · have i1 : ¬ (k : Int) < (l.length : Int) := by omega
            have hstop : Hid (∀ z, l[k]? = some z → ¬ cmpS z.id x.id < 0) := Lib.hid fun z hz => by
              rw [List.getElem?_eq_none (by omega)] at hz; cases hz
            go_wp2_with fail
            refine wp_region_quiet_below (by kernel_rfl) (by kernel_rfl) ?_
            repeat (go_big_quiet_step (fail))
            refine wpQuiet_nil ?_
            intro w9 hw9
            have hb9 := below_of_regrown hw9
            clear hw9
            have hz9 := hb9.size
            have hbw9 := hbw.trans (hb9.mono (by omega))
            clear a0
            have hpl2 : Hid (plN x.id l = k) := Lib.hid (plN_at hk ht.out fun y hy => by have := hstop.out y hy; omega)
            go_wp2_with (first
              | (at_builtin
                 refine wpList_append_rw _ rfl (.tmp 65) (.tmp 68) _ rfl workE_len workE_one w2.heap.size 25 inf _ 112 Tryd.underlying31 hi0 iz0 iz1 iz2 rfl (by omega) (.slice none 0 0) [] rfl (Own.nil _ _ _) w.heap.size A k c (l.take k) (by rw [List.length_take]; omega) rfl ?_ ?_ ?_ ?_ ?_
                 · exact (hrow.out _ hbw9).take
                 · (try simp [maxLen]) <;> omega
                 · (try simp) <;> omega
                 · (try simp) <;> omega
                 intro v3 w3 hown3 hg3 hat3
                 rw [List.nil_append] at hown3
                 replace hat3 := Lib.hid (show v3.ownBlock = none ∨ v3.ownBlock = some w9.heap.size by simpa [Value.ownBlock] using hat3)
                 have hz3 := hg3.size
                 have hbw3 : Below w2.heap.size w2 w3 := hbw9.grown hg3 (by omega) (fun g hg => by simp [Value.ownBlock] at hg)
                 have hbh3 := Lib.hid hbw3
                 have b0 := hxw hbh3.out 0 (.string x.id.1) rfl
                 have b1 := hxw hbh3.out 1 (.slice x.labsA x.labs.length x.labsC) rfl
                 have b2 := hxw hbh3.out 2 (.int .i64 x.trust.1) rfl
                 have b3 := hxw hbh3.out 3 (.int .i64 x.slots.1) rfl
                 have b4 := hxw hbh3.out 4 (.bool x.pre) rfl
                 have b5 := hxw hbh3.out 5 (.int .i64 0) rfl
                 have b6 := hxw hbh3.out 6 (.int .i64 now.1) rfl
                 have b7 := hxw hbh3.out 7 (.int .i64 0) rfl
                 have b8 := hxw hbh3.out 8 (.slice none 0 0) rfl)
              | (at_builtin
                 refine wpList_append_rw _ rfl (.tmp 70) (.tmp 72) _ rfl workE_len workE_one w2.heap.size 25 inf _ 112 Tryd.underlying31 hi0 iz0 iz1 iz2 rfl (by omega) v3 (l.take k) rfl (hown3.alloc _) _ (some ⟨w3.heap.size, 0, none⟩) 1 1 [newW x now] rfl rfl ((Own.lit (enc := workE) (l := [newW x now]) (base := 0) (workE (newW x now)).toArray (Nat.zero_le _) (by simp [maxLen]) (by simp) workE_len).reads workE_len) ?_ ?_ ?_ ?_
                 · (try simp [maxLen]) <;> omega
                 · (try simp) <;> omega
                 · (try simp) <;> omega
                 intro v4 w4 hown4 hg4 hat4
                 have hz4 := hg4.size
                 simp at hz4
                 have hbw4 : Below w2.heap.size w2 w4 := (hbw3.alloc (by omega) _).grown hg4 (by simp; omega) (fun g hg => by rcases hat3.out with h | h <;> rw [h] at hg <;> simp at hg <;> omega)
                 skip)
              | (at_builtin
                 go_must (refine wpList_append_rw _ rfl (.tmp 74) (.tmp 77) _ rfl workE_len workE_one w2.heap.size 25 inf _ 112 Tryd.underlying31 hi0 iz0 iz1 iz2 rfl (by omega) v4 (l.take k ++ [newW x now]) rfl hown4 w.heap.size _ (l.length - k) _ (l.drop k) (by rw [List.length_drop]) rfl ?_ ?_ ?_ ?_ ?_)
                 · first
                     | exact (hrow.out _ hbw4).drop hlc
                     | (have h := (hrow.out _ hbw4).drop (a := k) hlc; rw [if_neg (by omega)] at h; exact h)
                     | (have h := (hrow.out _ hbw4).drop (a := k) hlc; rw [if_pos (by omega)] at h; exact h)
                 · (try simp [maxLen]) <;> omega
                 · (try simp) <;> omega
                 · (try simp) <;> omega
                 intro v5 w5 hown5 hg5 hat5
                 have hz5 := hg5.size
                 have hbw5 : Below w2.heap.size w2 w5 := hbw4.grown hg5 (by omega) (fun g hg => by
                   rcases hat4 with h | h
                   · rw [h] at hg; rcases hat3.out with h | h <;> rw [h] at hg <;> simp at hg <;> omega
                   · rw [h] at hg; simp at hg; omega)
                 skip))
            all_goals
              have hLe : l.take k ++ [newW x now] ++ l.drop k = L := by rw [hL.out, hpl2.out, List.append_assoc]; rfl
              rw [hLe] at hown5
              obtain ⟨A5, c5, rfl, hc5, hm5, _⟩ := hown5.form
              have hb05 : Below w.heap.size w w5 := hb02.out.trans (hbw5.mono (by omega))
              exact bodyPost_ret (v := .tuple #[.slice A5 L.length c5, .int .i64 0]) (by simp [results, Tryd.results14, go_sem]) rfl ⟨A5, c5, rfl, ⟨hown5.reads workE_len, fun z hz => by
                rw [hL.out] at hz
                rcases List.mem_append.1 hz with h | h
                · exact (hrd.out _ hb05).labs z (List.mem_of_mem_take h)
                · rcases List.mem_cons.1 h with h | h
                  · subst h; exact (hxd.out _ hb05).new
                  · exact (hrd.out _ hb05).labs z (List.mem_of_mem_drop h)⟩, hc5, hb05⟩
  · have hE := joinE_3 hrb htb hwe
    rw [hE, joinL_no hE hwe]
    have hne : (wErr (newW x now) != 0) = true := by rw [bne_iff_ne]; exact hwe
    replace hE := Lib.hid hE
    obtain ⟨E, hEq⟩ : ∃ E, wErr (newW x now) = E := ⟨_, rfl⟩
    rw [hEq] at hva0 hne ⊢
    replace hwe := Lib.hid hwe
    replace hEq := Lib.hid hEq
    have hva := Lib.hid hva0
    have hfd := Lib.hid hfd0
    clear hva0 hfd0
    replace hrb := Lib.hid hrb
    replace htb := Lib.hid htb
    go_enter Tryd.func14, Tryd.ntmps14
    go_wp2_with (first
      | (go_at_call 40; go_must (refine (hli.out _ (by repeat (first | (with_reducible exact Below.refl _ _) | (with_reducible refine Below.drew ?_) | (with_reducible refine below_drewN ?_ _) | ((with_reducible refine Below.alloc ?_ ?_ _); rotate_left; focus ((try simp) <;> omega)) | ((with_reducible refine Below.setCell ?_ ?_ _); rotate_left; focus ((try simp) <;> omega)) | ((with_reducible refine Below.trans ?_ (Below.mono (by assumption) ?_)); rotate_left; focus ((try simp) <;> omega))))).mono ?_; rintro e w1 ⟨rfl, hb1⟩; have hz1 := hb1.size; (try simp at hz1); have hz1a : w.heap.size < w1.heap.size := (by omega); obtain ⟨hc1, hf1⟩ := blk_at hb1 w.heap.size (by (try simp) <;> omega)))
      | (go_at_call 32; go_must (refine (htm.out _).mono ?_; rintro e w4 ⟨rfl, rfl⟩))
      | (go_at_call 11; go_must (refine (hva.out _ (by repeat (first | (with_reducible exact Below.refl _ _) | (with_reducible refine Below.drew ?_) | (with_reducible refine below_drewN ?_ _) | ((with_reducible refine Below.alloc ?_ ?_ _); rotate_left; focus ((try simp) <;> omega)) | ((with_reducible refine Below.setCell ?_ ?_ _); rotate_left; focus ((try simp) <;> omega)) | ((with_reducible refine Below.trans ?_ (Below.mono (by assumption) ?_)); rotate_left; focus ((try simp) <;> omega))))).mono ?_; rintro e w2 ⟨rfl, hb2⟩; have hz2 := hb2.size; (try simp at hz2); have hz2a : w1.heap.size < w2.heap.size := (by omega); obtain ⟨hc2, hf2⟩ := blk_at hb2 w1.heap.size (by (try simp) <;> omega); have hb02 : Below w.heap.size w w2 := (by repeat (first | (with_reducible exact Below.refl _ _) | (with_reducible refine Below.drew ?_) | (with_reducible refine below_drewN ?_ _) | ((with_reducible refine Below.alloc ?_ ?_ _); rotate_left; focus ((try simp) <;> omega)) | ((with_reducible refine Below.setCell ?_ ?_ _); rotate_left; focus ((try simp) <;> omega)) | ((with_reducible refine Below.trans ?_ (Below.mono (by assumption) ?_)); rotate_left; focus ((try simp) <;> omega))))))
      | (go_at_call 41; go_must (refine (hfd.out _ (by repeat (first | (with_reducible exact Below.refl _ _) | (with_reducible refine Below.drew ?_) | (with_reducible refine below_drewN ?_ _) | ((with_reducible refine Below.alloc ?_ ?_ _); rotate_left; focus ((try simp) <;> omega)) | ((with_reducible refine Below.setCell ?_ ?_ _); rotate_left; focus ((try simp) <;> omega)) | ((with_reducible refine Below.trans ?_ (Below.mono (by assumption) ?_)); rotate_left; focus ((try simp) <;> omega))))).mono ?_; rintro e w3 ⟨rfl, rfl⟩)))
    exact bodyPost_ret (v := .tuple #[.slice A l.length c, .int .i64 E]) (by simp [results, Tryd.results14, go_sem]) rfl ⟨A, c, rfl, hrd.out _ (by repeat (first | (with_reducible exact Below.refl _ _) | (with_reducible refine Below.drew ?_) | (with_reducible refine below_drewN ?_ _) | ((with_reducible refine Below.alloc ?_ ?_ _); rotate_left; focus ((try simp) <;> omega)) | ((with_reducible refine Below.setCell ?_ ?_ _); rotate_left; focus ((try simp) <;> omega)) | ((with_reducible refine Below.trans ?_ (Below.mono (by assumption) ?_)); rotate_left; focus ((try simp) <;> omega)))), hlc, (by repeat (first | (with_reducible exact Below.refl _ _) | (with_reducible refine Below.drew ?_) | (with_reducible refine below_drewN ?_ _) | ((with_reducible refine Below.alloc ?_ ?_ _); rotate_left; focus ((try simp) <;> omega)) | ((with_reducible refine Below.setCell ?_ ?_ _); rotate_left; focus ((try simp) <;> omega)) | ((with_reducible refine Below.trans ?_ (Below.mono (by assumption) ?_)); rotate_left; focus ((try simp) <;> omega))))⟩
end Go.Proofs.YtnahbfmbmpoljaaDoor
