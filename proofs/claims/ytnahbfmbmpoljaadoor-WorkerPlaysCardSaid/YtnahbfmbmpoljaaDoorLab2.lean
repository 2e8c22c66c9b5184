/-
  The walks of labels: a comparison, a requirement and a label read, by the program.
-/
import Derived.Test.YtnahbfmbmpoljaaDoorLab01

namespace Go.Proofs.YtnahbfmbmpoljaaDoor
open Go.RowKit

/-- The library's variable that a search of a string asks for holds some number. -/
def Glob (w : World) : Prop := ∃ m, w.cell? ⟨2, 0, none⟩ = some (.int .i64 m)
theorem Glob.keep {w w' : World} (h : Glob w) (hb : Below w.heap.size w w') : Glob w' := by
  obtain ⟨m, h⟩ := h
  exact ⟨m, (hb.cell (p := ⟨2, 0, none⟩) (World.block_lt_of_cell? _ _ h)).trans h⟩
theorem Glob.bel {w w' : World} {B : Nat} (h : Glob w) (hb : Bel B w w') (hB : w.heap.size ≤ B) : Glob w' := by
  obtain ⟨m, h⟩ := h
  exact ⟨m, (hb.toBelow.cell (p := ⟨2, 0, none⟩) (by have := World.block_lt_of_cell? _ _ h; show 2 < B; have : 2 < w.heap.size := this; omega)).trans h⟩

/-- A requirement that was read, as a value. -/
def tv (p : Part) : Value := .agg #[.int .i64 p.1, .string ⟨p.2.1.toArray⟩, .int .i64 p.2.2]
theorem mk_toList (l : List UInt8) : (⟨l.toArray⟩ : ByteArray).toList = l := by rw [Lib.toList_data]
theorem mk_size (l : List UInt8) : (⟨l.toArray⟩ : ByteArray).size = l.length := rfl
theorem cut_len (s : List UInt8) (c : UInt8) (t : List UInt8) : (Lib.cut s (c :: t)).1.length ≤ s.length ∧ (Lib.cut s (c :: t)).2.1.length ≤ s.length := by
  rcases cut_cases s c t with ⟨e, _⟩ | ⟨a, b, e, h, _⟩
  · rw [e]; exact ⟨Nat.le_refl _, Nat.zero_le _⟩
  · rw [e, h]; simp; omega
theorem num_ok {l : List UInt8} (h : okD l = true) : numL l = valL l := by
  unfold okD at h
  simp only [Bool.and_eq_true] at h
  unfold numL
  rw [if_pos ⟨h.1.1, h.1.2⟩]

theorem signs_any (w : World) : Calls Tryd.prog 98 #[] w fun e w' => e = .returned (.agg #[.string ⟨#[62, 61]⟩, .int .i64 3, .string ⟨#[60, 61]⟩, .int .i64 4, .string ⟨#[61]⟩, .int .i64 5]) ∧ Bel w.heap.size w w' := by
  go_enter Tryd.func98, Tryd.ntmps98
  go_wp2_with fail
  exact bodyPost_ret (v := .agg #[.string ⟨#[62, 61]⟩, .int .i64 3, .string ⟨#[60, 61]⟩, .int .i64 4, .string ⟨#[61]⟩, .int .i64 5]) (by simp [results, Tryd.results98, go_sem]) rfl ⟨rfl, (by repeat (first | (with_reducible exact Bel.refl _ _) | (with_reducible refine Bel.drew ?_) | (with_reducible refine Bel.drewN ?_ _) | ((with_reducible refine Bel.alloc ?_ ?_ _); rotate_left; focus ((try simp) <;> omega)) | ((with_reducible refine Bel.setCell ?_ ?_ _); rotate_left; focus ((try simp) <;> omega)) | ((with_reducible refine Bel.trans ?_ (Bel.mono (by assumption) ?_)); rotate_left; focus ((try simp) <;> omega))))⟩


theorem blk_at {W w1 : World} (hb : Below W.heap.size W w1) (g : Nat) (hg : g < W.heap.size) : (∀ o, w1.cell? ⟨g, o, none⟩ = W.cell? ⟨g, o, none⟩) ∧ (∀ o, w1.frozen? ⟨g, o, none⟩ = W.frozen? ⟨g, o, none⟩) :=
  ⟨fun o => hb.cell (p := ⟨g, o, none⟩) hg, fun o => hb.frozen (p := ⟨g, o, none⟩) hg⟩
theorem set3_cells {w : World} {g : Nat} {u0 u1 u2 a b c : Value} (h0 : w.cell? ⟨g, 0, none⟩ = some u0) (h1 : w.cell? ⟨g, 1, none⟩ = some u1) (h2 : w.cell? ⟨g, 2, none⟩ = some u2) :
    ((((w.setCell ⟨g, 0, none⟩ a).setCell ⟨g, 1, none⟩ b).setCell ⟨g, 2, none⟩ c).cell? ⟨g, 0, none⟩ = some a ∧ (((w.setCell ⟨g, 0, none⟩ a).setCell ⟨g, 1, none⟩ b).setCell ⟨g, 2, none⟩ c).cell? ⟨g, 1, none⟩ = some b ∧ (((w.setCell ⟨g, 0, none⟩ a).setCell ⟨g, 1, none⟩ b).setCell ⟨g, 2, none⟩ c).cell? ⟨g, 2, none⟩ = some c) := by
  refine ⟨?_, ?_, ?_⟩
  · rw [World.cell?_setCell_other _ _ _ _ (by simp), World.cell?_setCell_other _ _ _ _ (by simp), World.cell?_setCell_same _ _ _ h0]
  · rw [World.cell?_setCell_other _ _ _ _ (by simp), World.cell?_setCell_same _ _ _ (by rw [World.cell?_setCell_other _ _ _ _ (by simp)]; exact h1)]
  · rw [World.cell?_setCell_same _ _ _ (by rw [World.cell?_setCell_other _ _ _ _ (by simp), World.cell?_setCell_other _ _ _ _ (by simp)]; exact h2)]
theorem comp_1 {s : List UInt8} (h : (Lib.cut s [62, 61]).2.2 = true) : compL s = partL 3 (Lib.cut s [62, 61]).1 (Lib.cut s [62, 61]).2.1 := by unfold compL; rw [if_pos h]
theorem comp_2 {s : List UInt8} (h1 : (Lib.cut s [62, 61]).2.2 = false) (h : (Lib.cut s [60, 61]).2.2 = true) : compL s = partL 4 (Lib.cut s [60, 61]).1 (Lib.cut s [60, 61]).2.1 := by unfold compL; rw [if_neg (by rw [h1]; decide), if_pos h]
theorem comp_3 {s : List UInt8} (h1 : (Lib.cut s [62, 61]).2.2 = false) (h2 : (Lib.cut s [60, 61]).2.2 = false) (h : (Lib.cut s [61]).2.2 = true) : compL s = partL 5 (Lib.cut s [61]).1 (Lib.cut s [61]).2.1 := by unfold compL; rw [if_neg (by rw [h1]; decide), if_neg (by rw [h2]; decide), if_pos h]
theorem comp_0 {s : List UInt8} (h1 : (Lib.cut s [62, 61]).2.2 = false) (h2 : (Lib.cut s [60, 61]).2.2 = false) (h3 : (Lib.cut s [61]).2.2 = false) : compL s = (0, [], 0) := by unfold compL; rw [if_neg (by rw [h1]; decide), if_neg (by rw [h2]; decide), if_neg (by rw [h3]; decide)]
/-- The signs that were not found before the k-th. -/
def NoSign (s : List UInt8) (k : Nat) : Prop := (0 < k → (Lib.cut s [62, 61]).2.2 = false) ∧ (1 < k → (Lib.cut s [60, 61]).2.2 = false) ∧ (2 < k → (Lib.cut s [61]).2.2 = false)

theorem ix0 (W : World) : (Instr.index 119 (.agg #[.string ⟨#[62, 61]⟩, .int .i64 3, .string ⟨#[60, 61]⟩, .int .i64 4, .string ⟨#[61]⟩, .int .i64 5]) (.int .i64 0)).run Tryd.prog W = .ok (.agg #[.string ⟨#[62, 61]⟩, .int .i64 3]) W := by kernel_rfl
theorem ix1 (W : World) : (Instr.index 119 (.agg #[.string ⟨#[62, 61]⟩, .int .i64 3, .string ⟨#[60, 61]⟩, .int .i64 4, .string ⟨#[61]⟩, .int .i64 5]) (.int .i64 1)).run Tryd.prog W = .ok (.agg #[.string ⟨#[60, 61]⟩, .int .i64 4]) W := by kernel_rfl
theorem ix2 (W : World) : (Instr.index 119 (.agg #[.string ⟨#[62, 61]⟩, .int .i64 3, .string ⟨#[60, 61]⟩, .int .i64 4, .string ⟨#[61]⟩, .int .i64 5]) (.int .i64 2)).run Tryd.prog W = .ok (.agg #[.string ⟨#[61]⟩, .int .i64 5]) W := by kernel_rfl
attribute [local go_sem ↓] ix0 ix1 ix2
set_option maxRecDepth 100000 in
set_option maxHeartbeats 4000000 in
theorem compared_any (s : ByteArray) (w : World) (hs : s.size < 4294967281) (hG : Glob w) : Calls Tryd.prog 87 #[.string s] w fun e w' => e = .returned (.tuple #[tv (compL s.toList), .bool (decide ((compL s.toList).1 ≠ 0))]) ∧ Bel w.heap.size w w' := by
  have hcut : Hid (∀ W, Bel w.heap.size w W → ∀ sep, Calls Tryd.prog 99 #[.string s, .string sep] W fun e w' => e = .returned (.tuple #[.string ⟨(Lib.cut s.data.toList sep.data.toList).1.toArray⟩, .string ⟨(Lib.cut s.data.toList sep.data.toList).2.1.toArray⟩, .bool (Lib.cut s.data.toList sep.data.toList).2.2]) ∧ ∃ n, w' = W.drewN n) := Lib.hid fun W hb sep => by
    obtain ⟨m, hm⟩ := hG.bel hb (Nat.le_refl _)
    exact Tryd.strings_Cut s sep m W hs hm
  go_enter Tryd.func87, Tryd.ntmps87
  go_wp2_with (go_at_call 98; go_must (refine (signs_any _).mono ?_; rintro e w1 ⟨rfl, hb1⟩; have hz1 := hb1.size; (try simp at hz1); obtain ⟨hc1, hf1⟩ := blk_at hb1.toBelow w.heap.size (by (try simp) <;> omega)))
  go_loopw [12] (fun vi wr => ∃ k : Nat, k ≤ 3 ∧ vi = .int .i64 (k : Int) ∧ NoSign s.toList k ∧ (wr.cell? ⟨w.heap.size, 0, none⟩ = some (.int .i64 0) ∧ wr.cell? ⟨w.heap.size, 1, none⟩ = some (.string ⟨#[]⟩) ∧ wr.cell? ⟨w.heap.size, 2, none⟩ = some (.int .i64 0)) ∧ (∀ j, wr.frozen? ⟨w.heap.size, j, none⟩ = false) ∧ w.heap.size < wr.heap.size ∧ Bel w.heap.size w wr) (fun vi _ => 3 - (intOf vi).toNat)
  case atStart => exact ⟨0, by omega, rfl, ⟨fun h => absurd h (by omega), fun h => absurd h (by omega), fun h => absurd h (by omega)⟩, ⟨by go_simp, by go_simp, by go_simp⟩, fun j => by go_simp, by omega, (by repeat (first | (with_reducible exact Bel.refl _ _) | (with_reducible refine Bel.drew ?_) | (with_reducible refine Bel.drewN ?_ _) | ((with_reducible refine Bel.alloc ?_ ?_ _); rotate_left; focus ((try simp) <;> omega)) | ((with_reducible refine Bel.setCell ?_ ?_ _); rotate_left; focus ((try simp) <;> omega)) | ((with_reducible refine Bel.trans ?_ (Bel.mono (by assumption) ?_)); rotate_left; focus ((try simp) <;> omega))))⟩
  case round =>
    obtain ⟨k, hk, rfl, hns, ⟨m0, m1, m2⟩, hfz, hBw, hbw⟩ := hrel
    have hz := hbw.size
    replace hns := Lib.hid hns
    clear hc1 hf1 hb1 hz1
    obtain rfl | rfl | rfl | rfl : k = 0 ∨ k = 1 ∨ k = 2 ∨ k = 3 := by omega
    · have hcl := cut_len s.toList 62 [61]
      obtain ⟨nm, hnm⟩ : ∃ nm, (Lib.cut s.toList (62 :: [61])).1 = nm := ⟨_, rfl⟩
      obtain ⟨rs, hrs⟩ : ∃ rs, (Lib.cut s.toList (62 :: [61])).2.1 = rs := ⟨_, rfl⟩
      obtain ⟨fd, hfd⟩ : ∃ fd, (Lib.cut s.toList (62 :: [61])).2.2 = fd := ⟨_, rfl⟩
      have hcx : Hid (∀ W, Bel w.heap.size w W → Calls Tryd.prog 99 #[.string s, .string ⟨(62 :: [61]).toArray⟩] W fun e w' => e = .returned (.tuple #[.string ⟨nm.toArray⟩, .string ⟨rs.toArray⟩, .bool fd]) ∧ ∃ n, w' = W.drewN n) := Lib.hid fun W hb => by
        have h := hcut.out W hb ⟨(62 :: [61]).toArray⟩
        rw [← Lib.toList_data] at h
        rw [show (⟨(62 :: [61]).toArray⟩ : ByteArray).data.toList = 62 :: [61] from rfl, hnm, hrs, hfd] at h
        exact h
      rw [hnm, hrs] at hcl
      have hnum : Hid (∀ W, Calls Tryd.prog 100 #[.string ⟨rs.toArray⟩] W fun e w' => e = .returned (.tuple #[.int .i64 (numL rs), .bool (okD rs)]) ∧ Bel W.heap.size W w') := Lib.hid fun W => by
        have h := number_any ⟨rs.toArray⟩ W (by rw [mk_size]; have := toList_len s; omega)
        rw [mk_toList] at h
        exact h
      have hnam : Hid (∀ W, Calls Tryd.prog 25 #[.string ⟨nm.toArray⟩] W fun e w' => e = .returned (.bool (nL nm)) ∧ Bel W.heap.size W w') := Lib.hid fun W => name_any ⟨nm.toArray⟩ W (by rw [mk_size]; have := toList_len s; omega)
      clear hcl
      rcases fd with _ | _
      · have hnx := Lib.hid (show NoSign s.toList (0 + 1) from ⟨fun h => by first | exact hfd | exact hns.out.1 (by omega), fun h => by first | exact hfd | exact hns.out.2.1 (by omega) | omega, fun h => by first | exact hfd | omega⟩)
        replace hnm := Lib.hid hnm
        replace hrs := Lib.hid hrs
        replace hfd := Lib.hid hfd
        go_wp2_with (go_at_call 99; go_must (refine (hcx.out _ (by repeat (first | (with_reducible exact Bel.refl _ _) | (with_reducible refine Bel.drew ?_) | (with_reducible refine Bel.drewN ?_ _) | ((with_reducible refine Bel.alloc ?_ ?_ _); rotate_left; focus ((try simp) <;> omega)) | ((with_reducible refine Bel.setCell ?_ ?_ _); rotate_left; focus ((try simp) <;> omega)) | ((with_reducible refine Bel.trans ?_ (Bel.mono (by assumption) ?_)); rotate_left; focus ((try simp) <;> omega))))).mono ?_; rintro e w2 ⟨rfl, nq, rfl⟩))
        go_roundw
        case rel => exact ⟨0 + 1, by omega, by first | rfl | go_num, hnx.out, ⟨by go_simp, by go_simp, by go_simp⟩, fun j => by go_simp, by simp; omega, (by repeat (first | (with_reducible exact Bel.refl _ _) | (with_reducible refine Bel.drew ?_) | (with_reducible refine Bel.drewN ?_ _) | ((with_reducible refine Bel.alloc ?_ ?_ _); rotate_left; focus ((try simp) <;> omega)) | ((with_reducible refine Bel.setCell ?_ ?_ _); rotate_left; focus ((try simp) <;> omega)) | ((with_reducible refine Bel.trans ?_ (Bel.mono (by assumption) ?_)); rotate_left; focus ((try simp) <;> omega))))⟩
        case measure => simp [intOf]
      · have hco : compL s.toList = partL 3 nm rs := by rw [← hnm, ← hrs]; exact comp_1 hfd
        rcases ho : okD rs with _ | _
        · have hfin := Lib.hid (show compL s.toList = (0, [], 0) by rw [hco]; exact part_no (Or.inl ho))
          rw [ho] at hnum
          replace hnm := Lib.hid hnm
          replace hrs := Lib.hid hrs
          replace hfd := Lib.hid hfd
          replace hco := Lib.hid hco
          replace ho := Lib.hid ho
          go_wp2_with (first | (go_at_call 99; go_must (refine (hcx.out _ (by repeat (first | (with_reducible exact Bel.refl _ _) | (with_reducible refine Bel.drew ?_) | (with_reducible refine Bel.drewN ?_ _) | ((with_reducible refine Bel.alloc ?_ ?_ _); rotate_left; focus ((try simp) <;> omega)) | ((with_reducible refine Bel.setCell ?_ ?_ _); rotate_left; focus ((try simp) <;> omega)) | ((with_reducible refine Bel.trans ?_ (Bel.mono (by assumption) ?_)); rotate_left; focus ((try simp) <;> omega))))).mono ?_; rintro e w2 ⟨rfl, nq, rfl⟩)) | (go_at_call 100; go_must (refine (hnum.out _).mono ?_; rintro e w3 ⟨rfl, hb3⟩; have hz3 := hb3.size; (try simp at hz3); obtain ⟨hc3, hf3⟩ := blk_at hb3.toBelow w.heap.size (by (try simp) <;> omega); obtain ⟨hd3, he3⟩ := blk_at hb3.toBelow wr.heap.size (by (try simp) <;> omega))))
          have hB : Bel wr.heap.size wr w3 := (by repeat (first | (with_reducible exact Bel.refl _ _) | (with_reducible refine Bel.drew ?_) | (with_reducible refine Bel.drewN ?_ _) | ((with_reducible refine Bel.alloc ?_ ?_ _); rotate_left; focus ((try simp) <;> omega)) | ((with_reducible refine Bel.setCell ?_ ?_ _); rotate_left; focus ((try simp) <;> omega)) | ((with_reducible refine Bel.trans ?_ (Bel.mono (by assumption) ?_)); rotate_left; focus ((try simp) <;> omega))))
          obtain ⟨s0, s1, s2⟩ := set3_cells (a := .int .i64 0) (b := .string ⟨#[]⟩) (c := .int .i64 0) ((hB.toBelow.cell (p := ⟨w.heap.size, 0, none⟩) hBw).trans m0) ((hB.toBelow.cell (p := ⟨w.heap.size, 1, none⟩) hBw).trans m1) ((hB.toBelow.cell (p := ⟨w.heap.size, 2, none⟩) hBw).trans m2)
          clear hB
          exact bodyPost_ret (v := .tuple #[.agg #[.int .i64 0, .string ⟨#[]⟩, .int .i64 0], .bool false]) (by simp [results, Tryd.results87, go_sem, s0, s1, s2]) rfl ⟨by rw [hfin.out]; rfl, (by repeat (first | (with_reducible exact Bel.refl _ _) | (with_reducible refine Bel.drew ?_) | (with_reducible refine Bel.drewN ?_ _) | ((with_reducible refine Bel.alloc ?_ ?_ _); rotate_left; focus ((try simp) <;> omega)) | ((with_reducible refine Bel.setCell ?_ ?_ _); rotate_left; focus ((try simp) <;> omega)) | ((with_reducible refine Bel.trans ?_ (Bel.mono (by assumption) ?_)); rotate_left; focus ((try simp) <;> omega))))⟩
        · rcases hn : nL nm with _ | _
          · have hfin := Lib.hid (show compL s.toList = (0, [], 0) by rw [hco]; exact part_no (Or.inr hn))
            rw [ho] at hnum
            rw [hn] at hnam
            replace hnm := Lib.hid hnm
            replace hrs := Lib.hid hrs
            replace hfd := Lib.hid hfd
            replace hco := Lib.hid hco
            replace ho := Lib.hid ho
            replace hn := Lib.hid hn
            go_wp2_with (first | (go_at_call 99; go_must (refine (hcx.out _ (by repeat (first | (with_reducible exact Bel.refl _ _) | (with_reducible refine Bel.drew ?_) | (with_reducible refine Bel.drewN ?_ _) | ((with_reducible refine Bel.alloc ?_ ?_ _); rotate_left; focus ((try simp) <;> omega)) | ((with_reducible refine Bel.setCell ?_ ?_ _); rotate_left; focus ((try simp) <;> omega)) | ((with_reducible refine Bel.trans ?_ (Bel.mono (by assumption) ?_)); rotate_left; focus ((try simp) <;> omega))))).mono ?_; rintro e w2 ⟨rfl, nq, rfl⟩)) | (go_at_call 100; go_must (refine (hnum.out _).mono ?_; rintro e w3 ⟨rfl, hb3⟩; have hz3 := hb3.size; (try simp at hz3); obtain ⟨hc3, hf3⟩ := blk_at hb3.toBelow w.heap.size (by (try simp) <;> omega); obtain ⟨hd3, he3⟩ := blk_at hb3.toBelow wr.heap.size (by (try simp) <;> omega))) | (go_at_call 25; go_must (refine (hnam.out _).mono ?_; rintro e w4 ⟨rfl, hb4⟩; have hz4 := hb4.size; (try simp at hz4); obtain ⟨hc4, hf4⟩ := blk_at hb4.toBelow w.heap.size (by (try simp) <;> omega); obtain ⟨hd4, he4⟩ := blk_at hb4.toBelow wr.heap.size (by (try simp) <;> omega))))
            have hB : Bel wr.heap.size wr w4 := (by repeat (first | (with_reducible exact Bel.refl _ _) | (with_reducible refine Bel.drew ?_) | (with_reducible refine Bel.drewN ?_ _) | ((with_reducible refine Bel.alloc ?_ ?_ _); rotate_left; focus ((try simp) <;> omega)) | ((with_reducible refine Bel.setCell ?_ ?_ _); rotate_left; focus ((try simp) <;> omega)) | ((with_reducible refine Bel.trans ?_ (Bel.mono (by assumption) ?_)); rotate_left; focus ((try simp) <;> omega))))
            obtain ⟨s0, s1, s2⟩ := set3_cells (a := .int .i64 0) (b := .string ⟨#[]⟩) (c := .int .i64 0) ((hB.toBelow.cell (p := ⟨w.heap.size, 0, none⟩) hBw).trans m0) ((hB.toBelow.cell (p := ⟨w.heap.size, 1, none⟩) hBw).trans m1) ((hB.toBelow.cell (p := ⟨w.heap.size, 2, none⟩) hBw).trans m2)
            clear hB
            exact bodyPost_ret (v := .tuple #[.agg #[.int .i64 0, .string ⟨#[]⟩, .int .i64 0], .bool false]) (by simp [results, Tryd.results87, go_sem, s0, s1, s2]) rfl ⟨by rw [hfin.out]; rfl, (by repeat (first | (with_reducible exact Bel.refl _ _) | (with_reducible refine Bel.drew ?_) | (with_reducible refine Bel.drewN ?_ _) | ((with_reducible refine Bel.alloc ?_ ?_ _); rotate_left; focus ((try simp) <;> omega)) | ((with_reducible refine Bel.setCell ?_ ?_ _); rotate_left; focus ((try simp) <;> omega)) | ((with_reducible refine Bel.trans ?_ (Bel.mono (by assumption) ?_)); rotate_left; focus ((try simp) <;> omega))))⟩
          · have hfin := Lib.hid (show compL s.toList = (3, nm, numL rs) by rw [hco, num_ok ho]; unfold partL; rw [if_pos ⟨ho, hn⟩])
            rw [ho] at hnum
            rw [hn] at hnam
            generalize numL rs = nv at hnum hfin
            replace hnm := Lib.hid hnm
            replace hrs := Lib.hid hrs
            replace hfd := Lib.hid hfd
            replace hco := Lib.hid hco
            replace ho := Lib.hid ho
            replace hn := Lib.hid hn
            go_wp2_with (first | (go_at_call 99; go_must (refine (hcx.out _ (by repeat (first | (with_reducible exact Bel.refl _ _) | (with_reducible refine Bel.drew ?_) | (with_reducible refine Bel.drewN ?_ _) | ((with_reducible refine Bel.alloc ?_ ?_ _); rotate_left; focus ((try simp) <;> omega)) | ((with_reducible refine Bel.setCell ?_ ?_ _); rotate_left; focus ((try simp) <;> omega)) | ((with_reducible refine Bel.trans ?_ (Bel.mono (by assumption) ?_)); rotate_left; focus ((try simp) <;> omega))))).mono ?_; rintro e w2 ⟨rfl, nq, rfl⟩)) | (go_at_call 100; go_must (refine (hnum.out _).mono ?_; rintro e w3 ⟨rfl, hb3⟩; have hz3 := hb3.size; (try simp at hz3); obtain ⟨hc3, hf3⟩ := blk_at hb3.toBelow w.heap.size (by (try simp) <;> omega); obtain ⟨hd3, he3⟩ := blk_at hb3.toBelow wr.heap.size (by (try simp) <;> omega))) | (go_at_call 25; go_must (refine (hnam.out _).mono ?_; rintro e w4 ⟨rfl, hb4⟩; have hz4 := hb4.size; (try simp at hz4); obtain ⟨hc4, hf4⟩ := blk_at hb4.toBelow w.heap.size (by (try simp) <;> omega); obtain ⟨hd4, he4⟩ := blk_at hb4.toBelow wr.heap.size (by (try simp) <;> omega))))
            have hB : Bel wr.heap.size wr w4 := (by repeat (first | (with_reducible exact Bel.refl _ _) | (with_reducible refine Bel.drew ?_) | (with_reducible refine Bel.drewN ?_ _) | ((with_reducible refine Bel.alloc ?_ ?_ _); rotate_left; focus ((try simp) <;> omega)) | ((with_reducible refine Bel.setCell ?_ ?_ _); rotate_left; focus ((try simp) <;> omega)) | ((with_reducible refine Bel.trans ?_ (Bel.mono (by assumption) ?_)); rotate_left; focus ((try simp) <;> omega))))
            obtain ⟨s0, s1, s2⟩ := set3_cells (a := .int .i64 3) (b := .string ⟨nm.toArray⟩) (c := .int .i64 (nv : Int)) ((hB.toBelow.cell (p := ⟨w.heap.size, 0, none⟩) hBw).trans m0) ((hB.toBelow.cell (p := ⟨w.heap.size, 1, none⟩) hBw).trans m1) ((hB.toBelow.cell (p := ⟨w.heap.size, 2, none⟩) hBw).trans m2)
            clear hB
            exact bodyPost_ret (v := .tuple #[.agg #[.int .i64 3, .string ⟨nm.toArray⟩, .int .i64 (nv : Int)], .bool true]) (by simp [results, Tryd.results87, go_sem, s0, s1, s2]) rfl ⟨by rw [hfin.out]; rfl, (by repeat (first | (with_reducible exact Bel.refl _ _) | (with_reducible refine Bel.drew ?_) | (with_reducible refine Bel.drewN ?_ _) | ((with_reducible refine Bel.alloc ?_ ?_ _); rotate_left; focus ((try simp) <;> omega)) | ((with_reducible refine Bel.setCell ?_ ?_ _); rotate_left; focus ((try simp) <;> omega)) | ((with_reducible refine Bel.trans ?_ (Bel.mono (by assumption) ?_)); rotate_left; focus ((try simp) <;> omega))))⟩
    · have hcl := cut_len s.toList 60 [61]
      obtain ⟨nm, hnm⟩ : ∃ nm, (Lib.cut s.toList (60 :: [61])).1 = nm := ⟨_, rfl⟩
      obtain ⟨rs, hrs⟩ : ∃ rs, (Lib.cut s.toList (60 :: [61])).2.1 = rs := ⟨_, rfl⟩
      obtain ⟨fd, hfd⟩ : ∃ fd, (Lib.cut s.toList (60 :: [61])).2.2 = fd := ⟨_, rfl⟩
      have hcx : Hid (∀ W, Bel w.heap.size w W → Calls Tryd.prog 99 #[.string s, .string ⟨(60 :: [61]).toArray⟩] W fun e w' => e = .returned (.tuple #[.string ⟨nm.toArray⟩, .string ⟨rs.toArray⟩, .bool fd]) ∧ ∃ n, w' = W.drewN n) := Lib.hid fun W hb => by
        have h := hcut.out W hb ⟨(60 :: [61]).toArray⟩
        rw [← Lib.toList_data] at h
        rw [show (⟨(60 :: [61]).toArray⟩ : ByteArray).data.toList = 60 :: [61] from rfl, hnm, hrs, hfd] at h
        exact h
      rw [hnm, hrs] at hcl
      have hnum : Hid (∀ W, Calls Tryd.prog 100 #[.string ⟨rs.toArray⟩] W fun e w' => e = .returned (.tuple #[.int .i64 (numL rs), .bool (okD rs)]) ∧ Bel W.heap.size W w') := Lib.hid fun W => by
        have h := number_any ⟨rs.toArray⟩ W (by rw [mk_size]; have := toList_len s; omega)
        rw [mk_toList] at h
        exact h
      have hnam : Hid (∀ W, Calls Tryd.prog 25 #[.string ⟨nm.toArray⟩] W fun e w' => e = .returned (.bool (nL nm)) ∧ Bel W.heap.size W w') := Lib.hid fun W => name_any ⟨nm.toArray⟩ W (by rw [mk_size]; have := toList_len s; omega)
      clear hcl
      rcases fd with _ | _
      · have hnx := Lib.hid (show NoSign s.toList (1 + 1) from ⟨fun h => by first | exact hfd | exact hns.out.1 (by omega), fun h => by first | exact hfd | exact hns.out.2.1 (by omega) | omega, fun h => by first | exact hfd | omega⟩)
        replace hnm := Lib.hid hnm
        replace hrs := Lib.hid hrs
        replace hfd := Lib.hid hfd
        go_wp2_with (go_at_call 99; go_must (refine (hcx.out _ (by repeat (first | (with_reducible exact Bel.refl _ _) | (with_reducible refine Bel.drew ?_) | (with_reducible refine Bel.drewN ?_ _) | ((with_reducible refine Bel.alloc ?_ ?_ _); rotate_left; focus ((try simp) <;> omega)) | ((with_reducible refine Bel.setCell ?_ ?_ _); rotate_left; focus ((try simp) <;> omega)) | ((with_reducible refine Bel.trans ?_ (Bel.mono (by assumption) ?_)); rotate_left; focus ((try simp) <;> omega))))).mono ?_; rintro e w2 ⟨rfl, nq, rfl⟩))
        go_roundw
        case rel => exact ⟨1 + 1, by omega, by first | rfl | go_num, hnx.out, ⟨by go_simp, by go_simp, by go_simp⟩, fun j => by go_simp, by simp; omega, (by repeat (first | (with_reducible exact Bel.refl _ _) | (with_reducible refine Bel.drew ?_) | (with_reducible refine Bel.drewN ?_ _) | ((with_reducible refine Bel.alloc ?_ ?_ _); rotate_left; focus ((try simp) <;> omega)) | ((with_reducible refine Bel.setCell ?_ ?_ _); rotate_left; focus ((try simp) <;> omega)) | ((with_reducible refine Bel.trans ?_ (Bel.mono (by assumption) ?_)); rotate_left; focus ((try simp) <;> omega))))⟩
        case measure => simp [intOf]
      · have hco : compL s.toList = partL 4 nm rs := by rw [← hnm, ← hrs]; exact comp_2 (hns.out.1 (by omega)) hfd
        rcases ho : okD rs with _ | _
        · have hfin := Lib.hid (show compL s.toList = (0, [], 0) by rw [hco]; exact part_no (Or.inl ho))
          rw [ho] at hnum
          replace hnm := Lib.hid hnm
          replace hrs := Lib.hid hrs
          replace hfd := Lib.hid hfd
          replace hco := Lib.hid hco
          replace ho := Lib.hid ho
          go_wp2_with (first | (go_at_call 99; go_must (refine (hcx.out _ (by repeat (first | (with_reducible exact Bel.refl _ _) | (with_reducible refine Bel.drew ?_) | (with_reducible refine Bel.drewN ?_ _) | ((with_reducible refine Bel.alloc ?_ ?_ _); rotate_left; focus ((try simp) <;> omega)) | ((with_reducible refine Bel.setCell ?_ ?_ _); rotate_left; focus ((try simp) <;> omega)) | ((with_reducible refine Bel.trans ?_ (Bel.mono (by assumption) ?_)); rotate_left; focus ((try simp) <;> omega))))).mono ?_; rintro e w2 ⟨rfl, nq, rfl⟩)) | (go_at_call 100; go_must (refine (hnum.out _).mono ?_; rintro e w3 ⟨rfl, hb3⟩; have hz3 := hb3.size; (try simp at hz3); obtain ⟨hc3, hf3⟩ := blk_at hb3.toBelow w.heap.size (by (try simp) <;> omega); obtain ⟨hd3, he3⟩ := blk_at hb3.toBelow wr.heap.size (by (try simp) <;> omega))))
          have hB : Bel wr.heap.size wr w3 := (by repeat (first | (with_reducible exact Bel.refl _ _) | (with_reducible refine Bel.drew ?_) | (with_reducible refine Bel.drewN ?_ _) | ((with_reducible refine Bel.alloc ?_ ?_ _); rotate_left; focus ((try simp) <;> omega)) | ((with_reducible refine Bel.setCell ?_ ?_ _); rotate_left; focus ((try simp) <;> omega)) | ((with_reducible refine Bel.trans ?_ (Bel.mono (by assumption) ?_)); rotate_left; focus ((try simp) <;> omega))))
          obtain ⟨s0, s1, s2⟩ := set3_cells (a := .int .i64 0) (b := .string ⟨#[]⟩) (c := .int .i64 0) ((hB.toBelow.cell (p := ⟨w.heap.size, 0, none⟩) hBw).trans m0) ((hB.toBelow.cell (p := ⟨w.heap.size, 1, none⟩) hBw).trans m1) ((hB.toBelow.cell (p := ⟨w.heap.size, 2, none⟩) hBw).trans m2)
          clear hB
          exact bodyPost_ret (v := .tuple #[.agg #[.int .i64 0, .string ⟨#[]⟩, .int .i64 0], .bool false]) (by simp [results, Tryd.results87, go_sem, s0, s1, s2]) rfl ⟨by rw [hfin.out]; rfl, (by repeat (first | (with_reducible exact Bel.refl _ _) | (with_reducible refine Bel.drew ?_) | (with_reducible refine Bel.drewN ?_ _) | ((with_reducible refine Bel.alloc ?_ ?_ _); rotate_left; focus ((try simp) <;> omega)) | ((with_reducible refine Bel.setCell ?_ ?_ _); rotate_left; focus ((try simp) <;> omega)) | ((with_reducible refine Bel.trans ?_ (Bel.mono (by assumption) ?_)); rotate_left; focus ((try simp) <;> omega))))⟩
        · rcases hn : nL nm with _ | _
          · have hfin := Lib.hid (show compL s.toList = (0, [], 0) by rw [hco]; exact part_no (Or.inr hn))
            rw [ho] at hnum
            rw [hn] at hnam
            replace hnm := Lib.hid hnm
            replace hrs := Lib.hid hrs
            replace hfd := Lib.hid hfd
            replace hco := Lib.hid hco
            replace ho := Lib.hid ho
            replace hn := Lib.hid hn
            go_wp2_with (first | (go_at_call 99; go_must (refine (hcx.out _ (by repeat (first | (with_reducible exact Bel.refl _ _) | (with_reducible refine Bel.drew ?_) | (with_reducible refine Bel.drewN ?_ _) | ((with_reducible refine Bel.alloc ?_ ?_ _); rotate_left; focus ((try simp) <;> omega)) | ((with_reducible refine Bel.setCell ?_ ?_ _); rotate_left; focus ((try simp) <;> omega)) | ((with_reducible refine Bel.trans ?_ (Bel.mono (by assumption) ?_)); rotate_left; focus ((try simp) <;> omega))))).mono ?_; rintro e w2 ⟨rfl, nq, rfl⟩)) | (go_at_call 100; go_must (refine (hnum.out _).mono ?_; rintro e w3 ⟨rfl, hb3⟩; have hz3 := hb3.size; (try simp at hz3); obtain ⟨hc3, hf3⟩ := blk_at hb3.toBelow w.heap.size (by (try simp) <;> omega); obtain ⟨hd3, he3⟩ := blk_at hb3.toBelow wr.heap.size (by (try simp) <;> omega))) | (go_at_call 25; go_must (refine (hnam.out _).mono ?_; rintro e w4 ⟨rfl, hb4⟩; have hz4 := hb4.size; (try simp at hz4); obtain ⟨hc4, hf4⟩ := blk_at hb4.toBelow w.heap.size (by (try simp) <;> omega); obtain ⟨hd4, he4⟩ := blk_at hb4.toBelow wr.heap.size (by (try simp) <;> omega))))
            have hB : Bel wr.heap.size wr w4 := (by repeat (first | (with_reducible exact Bel.refl _ _) | (with_reducible refine Bel.drew ?_) | (with_reducible refine Bel.drewN ?_ _) | ((with_reducible refine Bel.alloc ?_ ?_ _); rotate_left; focus ((try simp) <;> omega)) | ((with_reducible refine Bel.setCell ?_ ?_ _); rotate_left; focus ((try simp) <;> omega)) | ((with_reducible refine Bel.trans ?_ (Bel.mono (by assumption) ?_)); rotate_left; focus ((try simp) <;> omega))))
            obtain ⟨s0, s1, s2⟩ := set3_cells (a := .int .i64 0) (b := .string ⟨#[]⟩) (c := .int .i64 0) ((hB.toBelow.cell (p := ⟨w.heap.size, 0, none⟩) hBw).trans m0) ((hB.toBelow.cell (p := ⟨w.heap.size, 1, none⟩) hBw).trans m1) ((hB.toBelow.cell (p := ⟨w.heap.size, 2, none⟩) hBw).trans m2)
            clear hB
            exact bodyPost_ret (v := .tuple #[.agg #[.int .i64 0, .string ⟨#[]⟩, .int .i64 0], .bool false]) (by simp [results, Tryd.results87, go_sem, s0, s1, s2]) rfl ⟨by rw [hfin.out]; rfl, (by repeat (first | (with_reducible exact Bel.refl _ _) | (with_reducible refine Bel.drew ?_) | (with_reducible refine Bel.drewN ?_ _) | ((with_reducible refine Bel.alloc ?_ ?_ _); rotate_left; focus ((try simp) <;> omega)) | ((with_reducible refine Bel.setCell ?_ ?_ _); rotate_left; focus ((try simp) <;> omega)) | ((with_reducible refine Bel.trans ?_ (Bel.mono (by assumption) ?_)); rotate_left; focus ((try simp) <;> omega))))⟩
          · have hfin := Lib.hid (show compL s.toList = (4, nm, numL rs) by rw [hco, num_ok ho]; unfold partL; rw [if_pos ⟨ho, hn⟩])
            rw [ho] at hnum
            rw [hn] at hnam
            generalize numL rs = nv at hnum hfin
            replace hnm := Lib.hid hnm
            replace hrs := Lib.hid hrs
            replace hfd := Lib.hid hfd
            replace hco := Lib.hid hco
            replace ho := Lib.hid ho
            replace hn := Lib.hid hn
            go_wp2_with (first | (go_at_call 99; go_must (refine (hcx.out _ (by repeat (first | (with_reducible exact Bel.refl _ _) | (with_reducible refine Bel.drew ?_) | (with_reducible refine Bel.drewN ?_ _) | ((with_reducible refine Bel.alloc ?_ ?_ _); rotate_left; focus ((try simp) <;> omega)) | ((with_reducible refine Bel.setCell ?_ ?_ _); rotate_left; focus ((try simp) <;> omega)) | ((with_reducible refine Bel.trans ?_ (Bel.mono (by assumption) ?_)); rotate_left; focus ((try simp) <;> omega))))).mono ?_; rintro e w2 ⟨rfl, nq, rfl⟩)) | (go_at_call 100; go_must (refine (hnum.out _).mono ?_; rintro e w3 ⟨rfl, hb3⟩; have hz3 := hb3.size; (try simp at hz3); obtain ⟨hc3, hf3⟩ := blk_at hb3.toBelow w.heap.size (by (try simp) <;> omega); obtain ⟨hd3, he3⟩ := blk_at hb3.toBelow wr.heap.size (by (try simp) <;> omega))) | (go_at_call 25; go_must (refine (hnam.out _).mono ?_; rintro e w4 ⟨rfl, hb4⟩; have hz4 := hb4.size; (try simp at hz4); obtain ⟨hc4, hf4⟩ := blk_at hb4.toBelow w.heap.size (by (try simp) <;> omega); obtain ⟨hd4, he4⟩ := blk_at hb4.toBelow wr.heap.size (by (try simp) <;> omega))))
            have hB : Bel wr.heap.size wr w4 := (by repeat (first | (with_reducible exact Bel.refl _ _) | (with_reducible refine Bel.drew ?_) | (with_reducible refine Bel.drewN ?_ _) | ((with_reducible refine Bel.alloc ?_ ?_ _); rotate_left; focus ((try simp) <;> omega)) | ((with_reducible refine Bel.setCell ?_ ?_ _); rotate_left; focus ((try simp) <;> omega)) | ((with_reducible refine Bel.trans ?_ (Bel.mono (by assumption) ?_)); rotate_left; focus ((try simp) <;> omega))))
            obtain ⟨s0, s1, s2⟩ := set3_cells (a := .int .i64 4) (b := .string ⟨nm.toArray⟩) (c := .int .i64 (nv : Int)) ((hB.toBelow.cell (p := ⟨w.heap.size, 0, none⟩) hBw).trans m0) ((hB.toBelow.cell (p := ⟨w.heap.size, 1, none⟩) hBw).trans m1) ((hB.toBelow.cell (p := ⟨w.heap.size, 2, none⟩) hBw).trans m2)
            clear hB
            exact bodyPost_ret (v := .tuple #[.agg #[.int .i64 4, .string ⟨nm.toArray⟩, .int .i64 (nv : Int)], .bool true]) (by simp [results, Tryd.results87, go_sem, s0, s1, s2]) rfl ⟨by rw [hfin.out]; rfl, (by repeat (first | (with_reducible exact Bel.refl _ _) | (with_reducible refine Bel.drew ?_) | (with_reducible refine Bel.drewN ?_ _) | ((with_reducible refine Bel.alloc ?_ ?_ _); rotate_left; focus ((try simp) <;> omega)) | ((with_reducible refine Bel.setCell ?_ ?_ _); rotate_left; focus ((try simp) <;> omega)) | ((with_reducible refine Bel.trans ?_ (Bel.mono (by assumption) ?_)); rotate_left; focus ((try simp) <;> omega))))⟩
    · have hcl := cut_len s.toList 61 []
      obtain ⟨nm, hnm⟩ : ∃ nm, (Lib.cut s.toList (61 :: [])).1 = nm := ⟨_, rfl⟩
      obtain ⟨rs, hrs⟩ : ∃ rs, (Lib.cut s.toList (61 :: [])).2.1 = rs := ⟨_, rfl⟩
      obtain ⟨fd, hfd⟩ : ∃ fd, (Lib.cut s.toList (61 :: [])).2.2 = fd := ⟨_, rfl⟩
      have hcx : Hid (∀ W, Bel w.heap.size w W → Calls Tryd.prog 99 #[.string s, .string ⟨(61 :: []).toArray⟩] W fun e w' => e = .returned (.tuple #[.string ⟨nm.toArray⟩, .string ⟨rs.toArray⟩, .bool fd]) ∧ ∃ n, w' = W.drewN n) := Lib.hid fun W hb => by
        have h := hcut.out W hb ⟨(61 :: []).toArray⟩
        rw [← Lib.toList_data] at h
        rw [show (⟨(61 :: []).toArray⟩ : ByteArray).data.toList = 61 :: [] from rfl, hnm, hrs, hfd] at h
        exact h
      rw [hnm, hrs] at hcl
      have hnum : Hid (∀ W, Calls Tryd.prog 100 #[.string ⟨rs.toArray⟩] W fun e w' => e = .returned (.tuple #[.int .i64 (numL rs), .bool (okD rs)]) ∧ Bel W.heap.size W w') := Lib.hid fun W => by
        have h := number_any ⟨rs.toArray⟩ W (by rw [mk_size]; have := toList_len s; omega)
        rw [mk_toList] at h
        exact h
      have hnam : Hid (∀ W, Calls Tryd.prog 25 #[.string ⟨nm.toArray⟩] W fun e w' => e = .returned (.bool (nL nm)) ∧ Bel W.heap.size W w') := Lib.hid fun W => name_any ⟨nm.toArray⟩ W (by rw [mk_size]; have := toList_len s; omega)
      clear hcl
      rcases fd with _ | _
      · have hnx := Lib.hid (show NoSign s.toList (2 + 1) from ⟨fun h => by first | exact hfd | exact hns.out.1 (by omega), fun h => by first | exact hfd | exact hns.out.2.1 (by omega) | omega, fun h => by first | exact hfd | omega⟩)
        replace hnm := Lib.hid hnm
        replace hrs := Lib.hid hrs
        replace hfd := Lib.hid hfd
        go_wp2_with (go_at_call 99; go_must (refine (hcx.out _ (by repeat (first | (with_reducible exact Bel.refl _ _) | (with_reducible refine Bel.drew ?_) | (with_reducible refine Bel.drewN ?_ _) | ((with_reducible refine Bel.alloc ?_ ?_ _); rotate_left; focus ((try simp) <;> omega)) | ((with_reducible refine Bel.setCell ?_ ?_ _); rotate_left; focus ((try simp) <;> omega)) | ((with_reducible refine Bel.trans ?_ (Bel.mono (by assumption) ?_)); rotate_left; focus ((try simp) <;> omega))))).mono ?_; rintro e w2 ⟨rfl, nq, rfl⟩))
        go_roundw
        case rel => exact ⟨2 + 1, by omega, by first | rfl | go_num, hnx.out, ⟨by go_simp, by go_simp, by go_simp⟩, fun j => by go_simp, by simp; omega, (by repeat (first | (with_reducible exact Bel.refl _ _) | (with_reducible refine Bel.drew ?_) | (with_reducible refine Bel.drewN ?_ _) | ((with_reducible refine Bel.alloc ?_ ?_ _); rotate_left; focus ((try simp) <;> omega)) | ((with_reducible refine Bel.setCell ?_ ?_ _); rotate_left; focus ((try simp) <;> omega)) | ((with_reducible refine Bel.trans ?_ (Bel.mono (by assumption) ?_)); rotate_left; focus ((try simp) <;> omega))))⟩
        case measure => simp [intOf]
      · have hco : compL s.toList = partL 5 nm rs := by rw [← hnm, ← hrs]; exact comp_3 (hns.out.1 (by omega)) (hns.out.2.1 (by omega)) hfd
        rcases ho : okD rs with _ | _
        · have hfin := Lib.hid (show compL s.toList = (0, [], 0) by rw [hco]; exact part_no (Or.inl ho))
          rw [ho] at hnum
          replace hnm := Lib.hid hnm
          replace hrs := Lib.hid hrs
          replace hfd := Lib.hid hfd
          replace hco := Lib.hid hco
          replace ho := Lib.hid ho
          go_wp2_with (first | (go_at_call 99; go_must (refine (hcx.out _ (by repeat (first | (with_reducible exact Bel.refl _ _) | (with_reducible refine Bel.drew ?_) | (with_reducible refine Bel.drewN ?_ _) | ((with_reducible refine Bel.alloc ?_ ?_ _); rotate_left; focus ((try simp) <;> omega)) | ((with_reducible refine Bel.setCell ?_ ?_ _); rotate_left; focus ((try simp) <;> omega)) | ((with_reducible refine Bel.trans ?_ (Bel.mono (by assumption) ?_)); rotate_left; focus ((try simp) <;> omega))))).mono ?_; rintro e w2 ⟨rfl, nq, rfl⟩)) | (go_at_call 100; go_must (refine (hnum.out _).mono ?_; rintro e w3 ⟨rfl, hb3⟩; have hz3 := hb3.size; (try simp at hz3); obtain ⟨hc3, hf3⟩ := blk_at hb3.toBelow w.heap.size (by (try simp) <;> omega); obtain ⟨hd3, he3⟩ := blk_at hb3.toBelow wr.heap.size (by (try simp) <;> omega))))
          have hB : Bel wr.heap.size wr w3 := (by repeat (first | (with_reducible exact Bel.refl _ _) | (with_reducible refine Bel.drew ?_) | (with_reducible refine Bel.drewN ?_ _) | ((with_reducible refine Bel.alloc ?_ ?_ _); rotate_left; focus ((try simp) <;> omega)) | ((with_reducible refine Bel.setCell ?_ ?_ _); rotate_left; focus ((try simp) <;> omega)) | ((with_reducible refine Bel.trans ?_ (Bel.mono (by assumption) ?_)); rotate_left; focus ((try simp) <;> omega))))
          obtain ⟨s0, s1, s2⟩ := set3_cells (a := .int .i64 0) (b := .string ⟨#[]⟩) (c := .int .i64 0) ((hB.toBelow.cell (p := ⟨w.heap.size, 0, none⟩) hBw).trans m0) ((hB.toBelow.cell (p := ⟨w.heap.size, 1, none⟩) hBw).trans m1) ((hB.toBelow.cell (p := ⟨w.heap.size, 2, none⟩) hBw).trans m2)
          clear hB
          exact bodyPost_ret (v := .tuple #[.agg #[.int .i64 0, .string ⟨#[]⟩, .int .i64 0], .bool false]) (by simp [results, Tryd.results87, go_sem, s0, s1, s2]) rfl ⟨by rw [hfin.out]; rfl, (by repeat (first | (with_reducible exact Bel.refl _ _) | (with_reducible refine Bel.drew ?_) | (with_reducible refine Bel.drewN ?_ _) | ((with_reducible refine Bel.alloc ?_ ?_ _); rotate_left; focus ((try simp) <;> omega)) | ((with_reducible refine Bel.setCell ?_ ?_ _); rotate_left; focus ((try simp) <;> omega)) | ((with_reducible refine Bel.trans ?_ (Bel.mono (by assumption) ?_)); rotate_left; focus ((try simp) <;> omega))))⟩
        · rcases hn : nL nm with _ | _
          · have hfin := Lib.hid (show compL s.toList = (0, [], 0) by rw [hco]; exact part_no (Or.inr hn))
            rw [ho] at hnum
            rw [hn] at hnam
            replace hnm := Lib.hid hnm
            replace hrs := Lib.hid hrs
            replace hfd := Lib.hid hfd
            replace hco := Lib.hid hco
            replace ho := Lib.hid ho
            replace hn := Lib.hid hn
            go_wp2_with (first | (go_at_call 99; go_must (refine (hcx.out _ (by repeat (first | (with_reducible exact Bel.refl _ _) | (with_reducible refine Bel.drew ?_) | (with_reducible refine Bel.drewN ?_ _) | ((with_reducible refine Bel.alloc ?_ ?_ _); rotate_left; focus ((try simp) <;> omega)) | ((with_reducible refine Bel.setCell ?_ ?_ _); rotate_left; focus ((try simp) <;> omega)) | ((with_reducible refine Bel.trans ?_ (Bel.mono (by assumption) ?_)); rotate_left; focus ((try simp) <;> omega))))).mono ?_; rintro e w2 ⟨rfl, nq, rfl⟩)) | (go_at_call 100; go_must (refine (hnum.out _).mono ?_; rintro e w3 ⟨rfl, hb3⟩; have hz3 := hb3.size; (try simp at hz3); obtain ⟨hc3, hf3⟩ := blk_at hb3.toBelow w.heap.size (by (try simp) <;> omega); obtain ⟨hd3, he3⟩ := blk_at hb3.toBelow wr.heap.size (by (try simp) <;> omega))) | (go_at_call 25; go_must (refine (hnam.out _).mono ?_; rintro e w4 ⟨rfl, hb4⟩; have hz4 := hb4.size; (try simp at hz4); obtain ⟨hc4, hf4⟩ := blk_at hb4.toBelow w.heap.size (by (try simp) <;> omega); obtain ⟨hd4, he4⟩ := blk_at hb4.toBelow wr.heap.size (by (try simp) <;> omega))))
            have hB : Bel wr.heap.size wr w4 := (by repeat (first | (with_reducible exact Bel.refl _ _) | (with_reducible refine Bel.drew ?_) | (with_reducible refine Bel.drewN ?_ _) | ((with_reducible refine Bel.alloc ?_ ?_ _); rotate_left; focus ((try simp) <;> omega)) | ((with_reducible refine Bel.setCell ?_ ?_ _); rotate_left; focus ((try simp) <;> omega)) | ((with_reducible refine Bel.trans ?_ (Bel.mono (by assumption) ?_)); rotate_left; focus ((try simp) <;> omega))))
            obtain ⟨s0, s1, s2⟩ := set3_cells (a := .int .i64 0) (b := .string ⟨#[]⟩) (c := .int .i64 0) ((hB.toBelow.cell (p := ⟨w.heap.size, 0, none⟩) hBw).trans m0) ((hB.toBelow.cell (p := ⟨w.heap.size, 1, none⟩) hBw).trans m1) ((hB.toBelow.cell (p := ⟨w.heap.size, 2, none⟩) hBw).trans m2)
            clear hB
            exact bodyPost_ret (v := .tuple #[.agg #[.int .i64 0, .string ⟨#[]⟩, .int .i64 0], .bool false]) (by simp [results, Tryd.results87, go_sem, s0, s1, s2]) rfl ⟨by rw [hfin.out]; rfl, (by repeat (first | (with_reducible exact Bel.refl _ _) | (with_reducible refine Bel.drew ?_) | (with_reducible refine Bel.drewN ?_ _) | ((with_reducible refine Bel.alloc ?_ ?_ _); rotate_left; focus ((try simp) <;> omega)) | ((with_reducible refine Bel.setCell ?_ ?_ _); rotate_left; focus ((try simp) <;> omega)) | ((with_reducible refine Bel.trans ?_ (Bel.mono (by assumption) ?_)); rotate_left; focus ((try simp) <;> omega))))⟩
          · have hfin := Lib.hid (show compL s.toList = (5, nm, numL rs) by rw [hco, num_ok ho]; unfold partL; rw [if_pos ⟨ho, hn⟩])
            rw [ho] at hnum
            rw [hn] at hnam
            generalize numL rs = nv at hnum hfin
            replace hnm := Lib.hid hnm
            replace hrs := Lib.hid hrs
            replace hfd := Lib.hid hfd
            replace hco := Lib.hid hco
            replace ho := Lib.hid ho
            replace hn := Lib.hid hn
            go_wp2_with (first | (go_at_call 99; go_must (refine (hcx.out _ (by repeat (first | (with_reducible exact Bel.refl _ _) | (with_reducible refine Bel.drew ?_) | (with_reducible refine Bel.drewN ?_ _) | ((with_reducible refine Bel.alloc ?_ ?_ _); rotate_left; focus ((try simp) <;> omega)) | ((with_reducible refine Bel.setCell ?_ ?_ _); rotate_left; focus ((try simp) <;> omega)) | ((with_reducible refine Bel.trans ?_ (Bel.mono (by assumption) ?_)); rotate_left; focus ((try simp) <;> omega))))).mono ?_; rintro e w2 ⟨rfl, nq, rfl⟩)) | (go_at_call 100; go_must (refine (hnum.out _).mono ?_; rintro e w3 ⟨rfl, hb3⟩; have hz3 := hb3.size; (try simp at hz3); obtain ⟨hc3, hf3⟩ := blk_at hb3.toBelow w.heap.size (by (try simp) <;> omega); obtain ⟨hd3, he3⟩ := blk_at hb3.toBelow wr.heap.size (by (try simp) <;> omega))) | (go_at_call 25; go_must (refine (hnam.out _).mono ?_; rintro e w4 ⟨rfl, hb4⟩; have hz4 := hb4.size; (try simp at hz4); obtain ⟨hc4, hf4⟩ := blk_at hb4.toBelow w.heap.size (by (try simp) <;> omega); obtain ⟨hd4, he4⟩ := blk_at hb4.toBelow wr.heap.size (by (try simp) <;> omega))))
            have hB : Bel wr.heap.size wr w4 := (by repeat (first | (with_reducible exact Bel.refl _ _) | (with_reducible refine Bel.drew ?_) | (with_reducible refine Bel.drewN ?_ _) | ((with_reducible refine Bel.alloc ?_ ?_ _); rotate_left; focus ((try simp) <;> omega)) | ((with_reducible refine Bel.setCell ?_ ?_ _); rotate_left; focus ((try simp) <;> omega)) | ((with_reducible refine Bel.trans ?_ (Bel.mono (by assumption) ?_)); rotate_left; focus ((try simp) <;> omega))))
            obtain ⟨s0, s1, s2⟩ := set3_cells (a := .int .i64 5) (b := .string ⟨nm.toArray⟩) (c := .int .i64 (nv : Int)) ((hB.toBelow.cell (p := ⟨w.heap.size, 0, none⟩) hBw).trans m0) ((hB.toBelow.cell (p := ⟨w.heap.size, 1, none⟩) hBw).trans m1) ((hB.toBelow.cell (p := ⟨w.heap.size, 2, none⟩) hBw).trans m2)
            clear hB
            exact bodyPost_ret (v := .tuple #[.agg #[.int .i64 5, .string ⟨nm.toArray⟩, .int .i64 (nv : Int)], .bool true]) (by simp [results, Tryd.results87, go_sem, s0, s1, s2]) rfl ⟨by rw [hfin.out]; rfl, (by repeat (first | (with_reducible exact Bel.refl _ _) | (with_reducible refine Bel.drew ?_) | (with_reducible refine Bel.drewN ?_ _) | ((with_reducible refine Bel.alloc ?_ ?_ _); rotate_left; focus ((try simp) <;> omega)) | ((with_reducible refine Bel.setCell ?_ ?_ _); rotate_left; focus ((try simp) <;> omega)) | ((with_reducible refine Bel.trans ?_ (Bel.mono (by assumption) ?_)); rotate_left; focus ((try simp) <;> omega))))⟩
    · have hfin := Lib.hid (comp_0 (hns.out.1 (by omega)) (hns.out.2.1 (by omega)) (hns.out.2.2 (by omega)))
      go_wp2_with fail
      have hB : Bel wr.heap.size wr wr := (by repeat (first | (with_reducible exact Bel.refl _ _) | (with_reducible refine Bel.drew ?_) | (with_reducible refine Bel.drewN ?_ _) | ((with_reducible refine Bel.alloc ?_ ?_ _); rotate_left; focus ((try simp) <;> omega)) | ((with_reducible refine Bel.setCell ?_ ?_ _); rotate_left; focus ((try simp) <;> omega)) | ((with_reducible refine Bel.trans ?_ (Bel.mono (by assumption) ?_)); rotate_left; focus ((try simp) <;> omega))))
      obtain ⟨s0, s1, s2⟩ := set3_cells (a := .int .i64 0) (b := .string ⟨#[]⟩) (c := .int .i64 0) ((hB.toBelow.cell (p := ⟨w.heap.size, 0, none⟩) hBw).trans m0) ((hB.toBelow.cell (p := ⟨w.heap.size, 1, none⟩) hBw).trans m1) ((hB.toBelow.cell (p := ⟨w.heap.size, 2, none⟩) hBw).trans m2)
      clear hB
      exact bodyPost_ret (v := .tuple #[.agg #[.int .i64 0, .string ⟨#[]⟩, .int .i64 0], .bool false]) (by simp [results, Tryd.results87, go_sem, s0, s1, s2]) rfl ⟨by rw [hfin.out]; rfl, (by repeat (first | (with_reducible exact Bel.refl _ _) | (with_reducible refine Bel.drew ?_) | (with_reducible refine Bel.drewN ?_ _) | ((with_reducible refine Bel.alloc ?_ ?_ _); rotate_left; focus ((try simp) <;> omega)) | ((with_reducible refine Bel.setCell ?_ ?_ _); rotate_left; focus ((try simp) <;> omega)) | ((with_reducible refine Bel.trans ?_ (Bel.mono (by assumption) ?_)); rotate_left; focus ((try simp) <;> omega))))⟩
end Go.Proofs.YtnahbfmbmpoljaaDoor
