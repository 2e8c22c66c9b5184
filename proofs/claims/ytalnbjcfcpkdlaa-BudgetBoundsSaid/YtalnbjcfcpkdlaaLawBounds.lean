/-
  BudgetBounds: for every bucket and list of at most 40 requests, between any two times no more is spent than the burst and the rate permit, and the first example holds. No condition.
-/
import Derived.Test.YtalnbjcfcpkdlaaWalks8
import Derived.Test.YtalnbjcfcpkdlaaLawKit
import Derived.Test.YtalnbjcfcpkdlaaSliceRead
import Derived.Test.YtalnbjcfcpkdlaaLawBoundsPlain
import Derived.Maps.AppendAt
import Derived.Deep.DeepCutAuto





namespace Go.Proofs.Ytalnbjcfcpkdlaa.budgetBounds
open Go.ChangeShapes Go.WideShapes Go.ChangeAt Go.RowKit Go.Joins
attribute [local go_sem ↓] eq_bucket

theorem own : ownKnob Try.prog.godebug = none := by kernel_rfl
theorem laidOut : laidOutB Try.prog = true := by kernel_rfl

/-- The acts of the list: cells, by index. -/
def ActsAt (w : World) (g o n : Nat) (W C : Nat → Int) : Prop :=
  g < w.heap.size ∧ ∀ k, k < n → w.cell? ⟨g, o + k * 2, none⟩ = some (.int .i64 (W k)) ∧ w.cell? ⟨g, o + k * 2 + 1, none⟩ = some (.int .i64 (C k))

/-- The bucket in a block of its own. -/
def BktAt (w : World) (g : Nat) (r bu l a : Int) : Prop :=
  (w.cell? ⟨g, 0, none⟩ = some (.int .i64 r) ∧ w.cell? ⟨g, 1, none⟩ = some (.int .i64 bu) ∧ w.cell? ⟨g, 2, none⟩ = some (.int .i64 l) ∧ w.cell? ⟨g, 3, none⟩ = some (.int .i64 a)) ∧ ∀ o, w.frozen? ⟨g, o, none⟩ = false

structure Rel (w : World) (n : Nat) (r bu : Int) (k : Nat) (now L A : Int) (ts cs : List Int) (atv spv : Value) (wr : World) : Prop where
  hk : k ≤ n
  vld : Vld r bu L A
  le : A ≤ now
  max : now ≤ 1125899906842624
  good : Good r bu ts cs L A
  few : ts.length ≤ k
  at_ : wr.ownsRow (w.heap.size + 1) 3 1 atv ts.length (ts.map (Value.int .i64))
  sp_ : wr.ownsRow (w.heap.size + 1) 3 1 spv cs.length (cs.map (Value.int .i64))
  apart : ∀ b, atv.ownBlock = some b → spv.ownBlock ≠ some b
  bkt : BktAt wr w.heap.size r bu L A
  below : Below w.heap.size w wr
  size : w.heap.size < wr.heap.size

def RelV (w : World) (n : Nat) (r bu : Int) (nowv atv spv iv : Value) (wr : World) : Prop :=
  ∃ (k : Nat) (now L A : Int) (ts cs : List Int), iv = .int .i64 (k : Int) ∧ nowv = .int .i64 now ∧ Rel w n r bu k now L A ts cs atv spv wr

theorem row_ints {w : World} {base : Nat} {v : Value} {n : Nat} {zs : List Int} (h : w.ownsRow base 3 1 v n (zs.map (Value.int .i64))) :
    ∃ A c, v = .slice A n c ∧ (0 < n → ∃ g, A = some ⟨g, 0, none⟩ ∧ n ≤ c ∧ ∀ j, j < n → w.cell? ⟨g, j, none⟩ = some (.int .i64 (zs.getD j 0))) := by
  have hcell := fun g => h.cells (g := g)
  obtain ⟨hl, h2⟩ := h
  simp at hl
  rcases h2 with ⟨rfl, rfl⟩ | ⟨g, cap, cur, rfl, hb, hg, hc, _⟩
  · exact ⟨none, 0, rfl, fun h => absurd h (by omega)⟩
  · refine ⟨_, _, rfl, fun _ => ⟨g, rfl, hc, fun j hj => ?_⟩⟩
    have := hcell g rfl j (.int .i64 (zs.getD j 0)) (by rw [List.getElem?_map, List.getElem?_eq_getElem (by omega)]; simp [List.getD, List.getElem?_eq_getElem (show j < zs.length by omega)])
    rw [← this]
    by_cases h0 : j = 0 <;> simp [Addr.add, h0]

theorem prod_bd2 {r d : Int} (h0 : 0 ≤ r) (h1 : r ≤ 1000) (h2 : -1125899906842624 ≤ d) (h3 : d ≤ 1125899906842624) : -1125899906842624000 ≤ r * d ∧ r * d ≤ 1125899906842624000 := by
  rcases Int.lt_or_le d 0 with h | h
  · obtain ⟨a, b⟩ := prod_bd h0 h1 (d := -d) (by omega) (by omega)
    rw [Int.mul_neg] at a b
    omega
  · obtain ⟨a, b⟩ := prod_bd h0 h1 (d := d) (by omega) (by omega)
    omega

theorem below_drewN {B : Nat} {w w1 : World} (h : Below B w w1) (m : Nat) : Below B w (w1.drewN m) := ⟨h.os, h.tape, h.output, h.size, h.block⟩

theorem own_below {w w1 : World} {base : Nat} {e : TypeId} {size : Nat} {v : Value} {n : Nat} {xs : List Value} (h : w.ownsRow base e size v n xs) (hb : Below w.heap.size w w1) : w1.ownsRow base e size v n xs :=
  h.kept (row := none) ⟨hb.os, hb.tape, hb.output, hb.size, fun i hi _ => hb.block i hi⟩ (by cases v.ownBlock <;> simp)

theorem grown_at {W W' : World} {row : Option Nat} (hg : W.grownBy W' row) (b : Nat) (hlt : b < W.heap.size) (hne : some b ≠ row) : (∀ o, W'.cell? ⟨b, o, none⟩ = W.cell? ⟨b, o, none⟩) ∧ (∀ o, W'.frozen? ⟨b, o, none⟩ = W.frozen? ⟨b, o, none⟩) :=
  ⟨fun o => World.cell?_of_block (hg.block b hlt hne), fun o => World.frozen?_of_block (hg.block b hlt hne)⟩

theorem own_set4 {w : World} {g : Nat} {e : TypeId} {size : Nat} {v : Value} {n : Nat} {xs : List Value} (h : w.ownsRow (g + 1) e size v n xs) (a b c d : Value) :
    ((((w.setCell ⟨g, 0, none⟩ a).setCell ⟨g, 1, none⟩ b).setCell ⟨g, 2, none⟩ c).setCell ⟨g, 3, none⟩ d).ownsRow (g + 1) e size v n xs :=
  ownsRow_setCell_below (ownsRow_setCell_below (ownsRow_setCell_below (ownsRow_setCell_below h (Nat.lt_succ_self _) a) (Nat.lt_succ_self _) b) (Nat.lt_succ_self _) c) (Nat.lt_succ_self _) d

theorem apart_ne {v v' : Value} (h : ∀ b, v.ownBlock = some b → v'.ownBlock ≠ some b) : v'.ownBlock = none ∨ v'.ownBlock ≠ v.ownBlock := by
  rcases e : v'.ownBlock with _ | b
  · exact .inl rfl
  · refine .inr fun e' => h b e'.symm ?_
    rw [e]
theorem apart_symm {v v' : Value} (h : ∀ b, v.ownBlock = some b → v'.ownBlock ≠ some b) : ∀ b, v'.ownBlock = some b → v.ownBlock ≠ some b := fun b e e' => h b e' e

theorem news_one (w : World) (t : TypeId) (v : Value) : ∀ j u, [v][j]? = some u → (w.alloc (.cells #[v] t)).cell? ((⟨w.heap.size, 0, none⟩ : Addr).add j) = some u := by
  intro j u h
  cases j with
  | zero => simp at h; subst h; simp [Addr.add]
  | succ j => simp at h

theorem int_one (x : Int) : ∀ u ∈ [Value.int .i64 x], u.oneCell' = true := by
  intro u hu
  simp at hu
  subst hu
  rfl

theorem int_info : (Try.prog.info? 3).map (fun i => (i.zero, i.size, i.bytes)) = some (some (.int .i64 0), 1, 8) := by kernel_rfl

theorem sp_bad {r bu l a n c : Int} (h : spE r bu l a n c ≠ 0) : spL r bu l a n c = l ∧ spA r bu l a n c = a := by
  unfold spL spA
  rw [if_neg h, if_neg h]
  exact ⟨rfl, rfl⟩
theorem sp_good {r bu l a n c : Int} (hv : Vld r bu l a) (h : spE r bu l a n c = 0) :
    (0 ≤ n ∧ n ≤ 1125899906842624) ∧ (0 ≤ c ∧ c ≤ 1000000) ∧ 1000 * c ≤ lvl r bu l a n ∧ spL r bu l a n c = lvl r bu l a n - 1000 * c ∧ spA r bu l a n c = max a n := by
  have bv := vld_iff.2 hv
  rcases bn : inB n 0 1125899906842624 with _ | _
  · rw [(sp_2 bv (.inl bn)).1] at h; omega
  · rcases bc : inB c 0 1000000 with _ | _
    · rw [(sp_2 bv (.inr bc)).1] at h; omega
    · by_cases hl : lvl r bu l a n < 1000 * c
      · rw [(sp_15 bv bn bc hl).1] at h; omega
      · obtain ⟨_, h1, h2⟩ := sp_0 bv bn bc hl
        exact ⟨inB_iff.1 bn, inB_iff.1 bc, by omega, h1, h2⟩

set_option maxRecDepth 100000 in
set_option maxHeartbeats 4000000 in
theorem walk_some (r bu l a : Int) (g o n cap : Nat) (W C : Nat → Int) (w : World) (hv : Vld r bu l a) (hn : 0 < n) (hn40 : n ≤ 40) (hcap : n ≤ cap) (ha : ActsAt w g o n W C) :
    Calls Try.prog 7 #[.agg #[.int .i64 r, .int .i64 bu, .int .i64 l, .int .i64 a], .slice (some ⟨g, o, none⟩) n cap] w fun e w' => e = .returned (.bool true) ∧ Below w.heap.size w w' := by
  have bv := vld_iff.2 hv
  obtain ⟨hg, hcells⟩ := ha
  obtain ⟨i0, hI, iZ, iS, iB⟩ := info_parts int_info
  replace hcells := Lib.hid hcells
  have h40 : decide (40 < (n : Int)) = false := by simp; omega
  go_enter Try.func7, Try.ntmps7
  go_wp2_with (first | (go_at_call 15; refine (right_any _ _ _ _ _).mono ?_; rintro e w1 ⟨rfl, hb1⟩; have hz1 := hb1.size; (try simp at hz1); obtain ⟨hc1, hf1⟩ := blk_at hb1 w.heap.size (by (try simp) <;> omega); have hlt1 : w.heap.size < w1.heap.size := by omega))
  go_loopw [5, 6, 7, 8] (fun nowv atv spv iv wr => RelV w n r bu nowv atv spv iv wr) (fun _ _ _ iv _ => n - (intOf iv).toNat)
  case atStart =>
    refine ⟨0, a, l, a, [], [], rfl, rfl, ⟨Nat.zero_le _, hv, Int.le_refl _, hv.2.2.2.2.2.2.2, Good.nil _ _ _ _, Nat.zero_le _, ⟨rfl, .inl ⟨rfl, rfl⟩⟩, ⟨rfl, .inl ⟨rfl, rfl⟩⟩, by simp [Value.ownBlock], ⟨⟨?_, ?_, ?_, ?_⟩, ?_⟩, (by repeat (first | (with_reducible exact Below.refl _ _) | (with_reducible refine Below.drew ?_) | ((with_reducible refine Below.alloc ?_ ?_ _); rotate_left; focus ((try simp) <;> omega)) | ((with_reducible refine Below.setCell ?_ ?_ _); rotate_left; focus ((try simp) <;> omega)) | ((with_reducible refine Below.trans ?_ (Below.mono (by assumption) ?_)); rotate_left; focus ((try simp) <;> omega)))), hlt1⟩⟩
    all_goals (try go_simp)
  case round =>
    obtain ⟨k, now, L, A, ts, cs, rfl, rfl, hr⟩ := hrel
    obtain ⟨hk, hvr, hle, hmax, hgood, hfew, hat, hsp, hap, ⟨⟨b0, b1, b2, b3⟩, bf⟩, hbl, hsz⟩ := hr
    by_cases hlt : k < n
    · obtain ⟨hw0, hc0⟩ := hcells.out k hlt
      have hw : wr.cell? ⟨g, o + k * 2, none⟩ = some (.int .i64 (W k)) := (hbl.cell (p := ⟨g, _, none⟩) hg).trans hw0
      have hc : wr.cell? ⟨g, o + k * 2 + 1, none⟩ = some (.int .i64 (C k)) := (hbl.cell (p := ⟨g, _, none⟩) hg).trans hc0
      clear hw0 hc0
      by_cases hbad : W k < 0 ∨ 1000000 < W k ∨ 1125899906842624 - W k < now
      · go_wp2_with (first | (go_at_call 11; refine (awake_any _).mono ?_; rintro e w9 ⟨rfl, hb9⟩))
        all_goals go_ret
        all_goals exact ⟨rfl, (by repeat (first | (with_reducible exact Below.refl _ _) | (with_reducible refine Below.drew ?_) | ((with_reducible refine Below.alloc ?_ ?_ _); rotate_left; focus ((try simp) <;> omega)) | ((with_reducible refine Below.setCell ?_ ?_ _); rotate_left; focus ((try simp) <;> omega)) | ((with_reducible refine Below.trans ?_ (Below.mono (by assumption) ?_)); rotate_left; focus ((try simp) <;> omega))))⟩
      · have w1' : 0 ≤ W k := by omega
        have w2' : W k ≤ 1000000 := by omega
        have w3' : now ≤ 1125899906842624 - W k := by omega
        have hno : decide (1125899906842624 - W k < now) = false := by simp; omega
        clear hbad
        obtain ⟨v1', v2', v3, v4, v5, v6, v7, v8⟩ := (show Vld r bu L A from hvr)
        have ne1 : wr.heap.size ≠ w.heap.size := by omega
        have ne2 : wr.heap.size ≠ g := by omega
        have ne3 : w.heap.size ≠ wr.heap.size := by omega
        have ne4 : g ≠ wr.heap.size := by omega
        go_upto_region 11 with fail
        go_cut [9, 10] (fun s9 s10 wx => ∃ gc : Nat, s9 = .pointer (some ⟨gc, 0, none⟩) ∧ s10 = .int .i64 (spE r bu L A (now + W k) (C k)) ∧ wr.heap.size ≤ gc ∧ gc < wx.heap.size ∧
          BktAt wx gc r bu (spL r bu L A (now + W k) (C k)) (spA r bu L A (now + W k) (C k)) ∧ Below wr.heap.size wr wx)
        case first =>
          go_region_held3 (fun w' => (w'.cell? ⟨w.heap.size, 0, none⟩ = some (.int .i64 r) ∧ w'.cell? ⟨w.heap.size, 1, none⟩ = some (.int .i64 bu) ∧ w'.cell? ⟨w.heap.size, 2, none⟩ = some (.int .i64 L) ∧ w'.cell? ⟨w.heap.size, 3, none⟩ = some (.int .i64 A)) ∧ w'.cell? ⟨g, o + k * 2 + 1, none⟩ = some (.int .i64 (C k))) (go_keep)
            (first | (go_at_call 16; refine (spend_any _ _ _ _ _ _ _).mono ?_; rintro e w2 ⟨rfl, hb2⟩; unfold spV; have hz2 := hb2.size; (try simp at hz2); obtain ⟨hc2, hf2⟩ := blk_at hb2 w.heap.size (by (try simp) <;> omega); obtain ⟨hd2, he2⟩ := blk_at hb2 g (by (try simp) <;> omega); obtain ⟨hx2, hy2⟩ := bcell hb2; have hlt2 : w.heap.size < w2.heap.size := by omega))
          · go_wp2_with fail
            go_meet
            refine ⟨w2.heap.size, rfl, rfl, ?_, ?_, ⟨⟨?_, ?_, ?_, ?_⟩, ?_⟩, ?_⟩
            · omega
            · simp
            all_goals (try go_simp)
            exact (by repeat (first | (with_reducible exact Below.refl _ _) | (with_reducible refine Below.drew ?_) | ((with_reducible refine Below.alloc ?_ ?_ _); rotate_left; focus ((try simp) <;> omega)) | ((with_reducible refine Below.setCell ?_ ?_ _); rotate_left; focus ((try simp) <;> omega)) | ((with_reducible refine Below.trans ?_ (Below.mono (by assumption) ?_)); rotate_left; focus ((try simp) <;> omega))))
          · go_wp2_with fail
            go_meet
            refine ⟨wr.heap.size, rfl, rfl, ?_, ?_, ⟨⟨?_, ?_, ?_, ?_⟩, ?_⟩, ?_⟩
            · omega
            · simp [World.setCell]; omega
            all_goals (try go_simp)
            exact (by repeat (first | (with_reducible exact Below.refl _ _) | (with_reducible refine Below.drew ?_) | ((with_reducible refine Below.alloc ?_ ?_ _); rotate_left; focus ((try simp) <;> omega)) | ((with_reducible refine Below.setCell ?_ ?_ _); rotate_left; focus ((try simp) <;> omega)) | ((with_reducible refine Below.trans ?_ (Below.mono (by assumption) ?_)); rotate_left; focus ((try simp) <;> omega))))
        case rest =>
          obtain ⟨gc, rfl, rfl, g1, g2, ⟨⟨c0, c1, c2, c3⟩, cf⟩, hbx⟩ := hcut
          obtain ⟨p0, q0⟩ := blk_at hbx w.heap.size (by omega)
          obtain ⟨pg, qg⟩ := blk_at hbx g (by omega)
          have hsx := hbx.size
          have hgwc : g < wc.heap.size := by omega
          have hwwc : w.heap.size < wc.heap.size := by omega
          have hl6 := hat.lt
          have hl7 := hsp.lt
          have n60 : some w.heap.size ≠ u6.ownBlock := fun e => by have := hl6 _ e.symm; omega
          have n6g : some g ≠ u6.ownBlock := fun e => by have := hl6 _ e.symm; omega
          have n6c : some gc ≠ u6.ownBlock := fun e => by have := hl6 _ e.symm; omega
          have n70 : some w.heap.size ≠ u7.ownBlock := fun e => by have := hl7 _ e.symm; omega
          have n7g : some g ≠ u7.ownBlock := fun e => by have := hl7 _ e.symm; omega
          have n7c : some gc ≠ u7.ownBlock := fun e => by have := hl7 _ e.symm; omega
          replace hl6 := Lib.hid hl6
          replace hl7 := Lib.hid hl7
          have hapn := Lib.hid hap
          clear hap
          have hat1 := Lib.hid (own_below hat hbx)
          have hsp1 := Lib.hid (own_below hsp hbx)
          clear hat hsp
          rcases hE : (spE r bu L A (now + W k) (C k) == 0) with _ | _
          · obtain ⟨eL, eA⟩ := sp_bad (by simpa using hE)
            rw [eL] at c2
            rw [eA] at c3
            clear eL eA
            go_wp2_with fail
            go_roundw
            case rel =>
              refine ⟨k + 1, now + W k, L, A, ts, cs, by go_num, rfl, ⟨by omega, hvr, by omega, by omega, hgood, by omega, ?_, ?_, hapn.out, ⟨⟨?_, ?_, ?_, ?_⟩, ?_⟩, ?_, ?_⟩⟩
              · exact own_set4 hat1.out _ _ _ _
              · exact own_set4 hsp1.out _ _ _ _
              all_goals (try go_simp)
              all_goals first
                | omega
                | (have hbz := hbl.trans (hbx.mono (show w.heap.size ≤ wr.heap.size by omega)); exact (by repeat (first | (with_reducible exact Below.refl _ _) | (with_reducible refine Below.drew ?_) | ((with_reducible refine Below.alloc ?_ ?_ _); rotate_left; focus ((try simp) <;> omega)) | ((with_reducible refine Below.setCell ?_ ?_ _); rotate_left; focus ((try simp) <;> omega)) | ((with_reducible refine Below.trans ?_ (Below.mono (by assumption) ?_)); rotate_left; focus ((try simp) <;> omega)))))
            case measure => simp [intOf]; omega
          · have hE' : spE r bu L A (now + W k) (C k) = 0 := by simpa using hE
            obtain ⟨hnb, hcb, hlv, eL, eA⟩ := sp_good hvr hE'
            obtain ⟨_, _, hlb⟩ := lvl_bd hvr hnb
            have hG := Lib.hid (hgood.step hvr (show 0 ≤ now + W k by omega) (show A ≤ now + W k by omega) hcb hlv hlb)
            rw [eL] at c2
            rw [show spA r bu L A (now + W k) (C k) = now + W k by rw [eA]; omega] at c3
            obtain ⟨z1, z2⟩ := hcb
            clear eL eA hE'
            go_wp2_with (first
              | (at_builtin; (refine wpList_append_own_at _ rfl (.tmp 76) (.tmp 78) 39 rfl (w.heap.size + 1) 3 i0 (.int .i64 0) 1 8 Try.underlying39 hI iZ iS iB rfl (by omega) u6 ts.length (ts.map (Value.int .i64)) rfl (hat1.out.alloc _) ⟨wc.heap.size, 0, none⟩ 1 1 [.int .i64 (now + W k)] rfl rfl (news_one _ _ _) (int_one _) (by unfold maxLen; omega) (by omega) (by simp; omega) ?_; intro v1 w3 hown1 hg1 hnil1 hblk1; clear hnil1; have hs3 := hg1.size; (simp at hs3); obtain ⟨r3, f3⟩ := grown_at hg1 w.heap.size (by (try simp) <;> omega) n60; obtain ⟨x3, y3⟩ := grown_at hg1 g (by (try simp) <;> omega) n6g; obtain ⟨m3, k3⟩ := grown_at hg1 gc (by (try simp) <;> omega) n6c; replace hown1 := Lib.hid hown1; replace hblk1 := Lib.hid hblk1; have hsp3 := Lib.hid (((hsp1.out.alloc (.cells #[Value.int .i64 (now + W k)] 3)).kept hg1 (apart_ne hapn.out))); have hlt3 : wc.heap.size < w3.heap.size := (by omega); have hlt4 : w.heap.size < w3.heap.size := (by omega); have hlt5 : g < w3.heap.size := (by omega); have hlt6 : gc < w3.heap.size := (by omega)))
              | (at_builtin; (refine wpList_append_own_at _ rfl (.tmp 80) (.tmp 86) 39 rfl (w.heap.size + 1) 3 i0 (.int .i64 0) 1 8 Try.underlying39 hI iZ iS iB rfl (by omega) u7 cs.length (cs.map (Value.int .i64)) rfl (hsp3.out.alloc _) ⟨w3.heap.size, 0, none⟩ 1 1 [.int .i64 (C k)] rfl rfl (news_one _ _ _) (int_one _) (by have := hgood.len; unfold maxLen; omega) (by have := hgood.len; omega) (by (try simp) <;> omega) ?_; intro v2 w4 hown2 hg2 hnil2 hblk2; clear hnil2; have hs4 := hg2.size; (simp at hs4); obtain ⟨r4, f4⟩ := grown_at hg2 w.heap.size (by (try simp) <;> omega) n70; obtain ⟨x4, y4⟩ := grown_at hg2 g (by (try simp) <;> omega) n7g; obtain ⟨m4, k4⟩ := grown_at hg2 gc (by (try simp) <;> omega) n7c; replace hown2 := Lib.hid hown2; replace hblk2 := Lib.hid hblk2))
              | fail)
            go_roundw
            case rel =>
              have b1 := hblk1.out
              have b2 := hblk2.out
              have l6 := hl6.out
              have l7 := hl7.out
              have a0 := hapn.out
              simp at b1 b2
              have ne17 : ∀ b, u7.ownBlock = some b → v1.ownBlock ≠ some b := by
                intro b e e'
                rcases b1 with b1 | b1
                · exact a0 b (b1 ▸ e') e
                · have := l7 b e
                  rw [b1] at e'
                  injection e' with e'
                  omega
              refine ⟨k + 1, now + W k, lvl r bu L A (now + W k) - 1000 * C k, now + W k, ts ++ [now + W k], cs ++ [C k], by go_num, rfl, ⟨by omega, ⟨v1', v2', v3, v4, by omega, by omega, by omega, by omega⟩, by omega, by omega, hG.out, by simp; omega, ?_, ?_, ?_, ⟨⟨?_, ?_, ?_, ?_⟩, ?_⟩, ?_, ?_⟩⟩
              · simpa using own_set4 ((hown1.out.alloc _).kept hg2 (apart_ne ne17)) _ _ _ _
              · simpa using own_set4 hown2.out _ _ _ _
              · intro b e e'
                rcases b2 with b2 | b2
                · exact ne17 b (b2 ▸ e') e
                · rw [b2] at e'
                  injection e' with e'
                  rcases b1 with b1 | b1
                  · have := l6 b (b1 ▸ e)
                    omega
                  · rw [b1] at e
                    injection e with e
                    omega
              all_goals (try go_simp)
              all_goals first
                | omega
                | (have hbz := hbl.trans (hbx.mono (show w.heap.size ≤ wr.heap.size by omega))
                   have hbz3 := (hbz.alloc (by omega) (.cells #[Value.int .i64 (now + W k)] 3)).grown hg1 (by simp; omega) (fun b e => by have := l6 b e; omega)
                   have hbz4 := (hbz3.alloc (by omega) (.cells #[Value.int .i64 (C k)] 3)).grown hg2 (by simp; omega) (fun b e => by have := l7 b e; omega)
                   exact (by repeat (first | (with_reducible exact Below.refl _ _) | (with_reducible refine Below.drew ?_) | ((with_reducible refine Below.alloc ?_ ?_ _); rotate_left; focus ((try simp) <;> omega)) | ((with_reducible refine Below.setCell ?_ ?_ _); rotate_left; focus ((try simp) <;> omega)) | ((with_reducible refine Below.trans ?_ (Below.mono (by assumption) ?_)); rotate_left; focus ((try simp) <;> omega)))))
            case measure => simp [intOf]; omega
    · have hlen := hgood.len
      obtain ⟨A6, c6, rfl, h6⟩ := row_ints hat
      obtain ⟨A7, c7, rfl, h7⟩ := row_ints hsp
      replace h6 := Lib.hid h6
      replace h7 := Lib.hid h7
      clear hat hsp hap
      obtain ⟨z1, z2, z3, z4, z5, z6, z7, z8⟩ := (show Vld r bu L A from hvr)
      obtain ⟨nt, hnt⟩ : ∃ nt : Nat, nt = ts.length := ⟨_, rfl⟩
      rw [← hnt] at hfew h6 ⊢
      rw [← hlen, ← hnt] at h7 ⊢
      obtain ⟨T, hT⟩ : ∃ T : Nat → Int, ∀ j, T j = ts.getD j 0 := ⟨_, fun _ => rfl⟩
      obtain ⟨D, hD⟩ : ∃ D : Nat → Int, ∀ j, D j = cs.getD j 0 := ⟨_, fun _ => rfl⟩
      obtain ⟨S, hS⟩ : ∃ S : Nat → Nat → Int, ∀ i p, S i p = ((cs.drop i).take p).sum := ⟨_, fun _ _ => rfl⟩
      have fS : ∀ i p, i + p < nt → S i (p + 1) = S i p + D (i + p) := fun i p h => by rw [hS, hS, hD]; exact take_sum (by omega)
      have fB : ∀ i p, 0 ≤ S i p ∧ S i p ≤ 40000000 := fun i p => by rw [hS]; have := hgood.sum i p; omega
      have fP : ∀ i p, i + p < nt → 1000 * S i (p + 1) ≤ 1000 * bu + r * (T (i + p) - T i) := fun i p h => by rw [hS, hT, hT]; exact hgood.part i p (by omega)
      have fT : ∀ i, i < nt → 0 ≤ T i ∧ T i ≤ 1125899906842624 := fun i h => by rw [hT]; have := hgood.time i (by omega); omega
      have fD : ∀ i, i < nt → 0 ≤ D i ∧ D i ≤ 1000000 := fun i h => by rw [hD]; exact hgood.cost i (by omega)
      have f0 : ∀ i, S i 0 = 0 := fun i => by rw [hS]; simp
      simp only [← hT] at h6
      simp only [← hD] at h7
      replace fS := Lib.hid fS
      replace fB := Lib.hid fB
      replace fP := Lib.hid fP
      replace fT := Lib.hid fT
      replace fD := Lib.hid fD
      replace f0 := Lib.hid f0
      replace hnt := Lib.hid hnt
      clear hT hD hS hlen
      go_wp2_with fail
      go_loopw [11] (fun iv w2 => ∃ i m : Nat, i ≤ nt ∧ iv = .int .i64 (i : Int) ∧ w2 = wr.drewN m) (fun iv _ => nt - (intOf iv).toNat)
      case atStart => exact ⟨0, 0, by omega, rfl, rfl⟩
      case round =>
        obtain ⟨i, m, hi', rfl, rfl⟩ := hrel
        by_cases hin : i < nt
        · go_wp2_with fail
          go_loopw [12, 13] (fun sv kv w2 => ∃ p m' : Nat, i + p ≤ nt ∧ kv = .int .i64 ((i + p : Nat) : Int) ∧ sv = .int .i64 (S i p) ∧ w2 = wr.drewN m') (fun _ kv _ => nt - (intOf kv).toNat)
          case atStart => exact ⟨0, m, by omega, rfl, by rw [f0.out], rfl⟩
          case round =>
            obtain ⟨p, m', hp', rfl, rfl, rfl⟩ := hrel
            by_cases hpn : i + p < nt
            · have e1 := fS.out i p hpn
              have e2 := fP.out i p hpn
              rw [e1] at e2
              obtain ⟨s1, s2⟩ := fB.out i p
              obtain ⟨d1, d2⟩ := fD.out (i + p) hpn
              obtain ⟨t1, t2⟩ := fT.out (i + p) hpn
              obtain ⟨t3, t4⟩ := fT.out i hin
              obtain ⟨q1, q2⟩ := prod_bd2 z1 z2 (d := T (i + p) - T i) (by omega) (by omega)
              obtain ⟨g6, rfl, h6c, h6v⟩ := h6.out (by omega)
              obtain ⟨g7, rfl, h7c, h7v⟩ := h7.out (by omega)
              have k1 := h6v (i + p) hpn
              have k2 := h6v i hin
              have k3 := h7v (i + p) hpn
              clear h6v h7v
              replace e1 := Lib.hid e1
              go_wp2_with fail
              have x1 : IntKind.i64.wrap (1000 * (S i p + D (i + p))) = 1000 * (S i p + D (i + p)) := IntWalk.i64_in _ (by omega)
              have x2 : IntKind.i64.wrap (1000 * bu) = 1000 * bu := IntWalk.i64_in _ (by omega)
              have x3 : IntKind.i64.wrap (T (i + p) - T i) = T (i + p) - T i := IntWalk.i64_in _ (by omega)
              have x4 : IntKind.i64.wrap (r * (T (i + p) - T i)) = r * (T (i + p) - T i) := IntWalk.i64_in _ (by omega)
              have x5 : IntKind.i64.wrap (1000 * bu + r * (T (i + p) - T i)) = 1000 * bu + r * (T (i + p) - T i) := IntWalk.i64_in _ (by omega)
              have x6 : decide (1000 * bu + r * (T (i + p) - T i) < 1000 * (S i p + D (i + p))) = false := by simp; omega
              go_quiet (fail)
              clear x1 x2 x3 x4 x5
              go_wp2_with fail
              go_roundw
              case rel => exact ⟨p + 1, _, by omega, by go_num, by rw [e1.out], rfl⟩
              case measure => simp [intOf]; omega
            · go_wp2_with fail
              go_roundw
              case rel => exact ⟨i + 1, _, by omega, by go_num, rfl⟩
              case measure => simp [intOf]; omega
        · go_wp2_with (first | (go_at_call 11; refine (awake_any _).mono ?_; rintro e w9 ⟨rfl, hb9⟩))
          go_ret
          have hbm := below_drewN hbl m
          exact ⟨rfl, (by repeat (first | (with_reducible exact Below.refl _ _) | (with_reducible refine Below.drew ?_) | ((with_reducible refine Below.alloc ?_ ?_ _); rotate_left; focus ((try simp) <;> omega)) | ((with_reducible refine Below.setCell ?_ ?_ _); rotate_left; focus ((try simp) <;> omega)) | ((with_reducible refine Below.trans ?_ (Below.mono (by assumption) ?_)); rotate_left; focus ((try simp) <;> omega))))⟩

set_option maxHeartbeats 1000000 in
theorem walk_bad (r bu l a : Int) (A : Option Addr) (n cap : Nat) (w : World) (h : ¬ Vld r bu l a ∨ 40 < n) :
    Calls Try.prog 7 #[.agg #[.int .i64 r, .int .i64 bu, .int .i64 l, .int .i64 a], .slice A n cap] w fun e w' => e = .returned (.bool true) ∧ Below w.heap.size w w' := by
  rcases bv : vld r bu l a with _ | _
  · go_enter Try.func7, Try.ntmps7
    go_wp2_with (first | (go_at_call 11; refine (awake_any _).mono ?_; rintro e w9 ⟨rfl, hb9⟩) | (go_at_call 15; refine (right_any _ _ _ _ _).mono ?_; rintro e w1 ⟨rfl, hb1⟩; have hz1 := hb1.size; (try simp at hz1); obtain ⟨hc1, hf1⟩ := blk_at hb1 w.heap.size (by (try simp) <;> omega); have hlt1 : w.heap.size < w1.heap.size := by omega))
    go_ret
    exact ⟨rfl, (by repeat (first | (with_reducible exact Below.refl _ _) | (with_reducible refine Below.drew ?_) | ((with_reducible refine Below.alloc ?_ ?_ _); rotate_left; focus ((try simp) <;> omega)) | ((with_reducible refine Below.setCell ?_ ?_ _); rotate_left; focus ((try simp) <;> omega)) | ((with_reducible refine Below.trans ?_ (Below.mono (by assumption) ?_)); rotate_left; focus ((try simp) <;> omega))))⟩
  · have h40 : 40 < n := h.resolve_left (fun hh => hh (vld_iff.1 bv))
    have h40' : decide (40 < (n : Int)) = true := by simp; omega
    go_enter Try.func7, Try.ntmps7
    go_wp2_with (first | (go_at_call 11; refine (awake_any _).mono ?_; rintro e w9 ⟨rfl, hb9⟩) | (go_at_call 15; refine (right_any _ _ _ _ _).mono ?_; rintro e w1 ⟨rfl, hb1⟩; have hz1 := hb1.size; (try simp at hz1); obtain ⟨hc1, hf1⟩ := blk_at hb1 w.heap.size (by (try simp) <;> omega); have hlt1 : w.heap.size < w1.heap.size := by omega))
    go_ret
    exact ⟨rfl, (by repeat (first | (with_reducible exact Below.refl _ _) | (with_reducible refine Below.drew ?_) | ((with_reducible refine Below.alloc ?_ ?_ _); rotate_left; focus ((try simp) <;> omega)) | ((with_reducible refine Below.setCell ?_ ?_ _); rotate_left; focus ((try simp) <;> omega)) | ((with_reducible refine Below.trans ?_ (Below.mono (by assumption) ?_)); rotate_left; focus ((try simp) <;> omega))))⟩

set_option maxHeartbeats 1000000 in
theorem walk_zero (r bu l a : Int) (A : Option Addr) (cap : Nat) (w : World) (hv : Vld r bu l a) :
    Calls Try.prog 7 #[.agg #[.int .i64 r, .int .i64 bu, .int .i64 l, .int .i64 a], .slice A 0 cap] w fun e w' => e = .returned (.bool true) ∧ Below w.heap.size w w' := by
  have bv := vld_iff.2 hv
  go_enter Try.func7, Try.ntmps7
  go_wp2_with (first | (go_at_call 11; refine (awake_any _).mono ?_; rintro e w9 ⟨rfl, hb9⟩) | (go_at_call 15; refine (right_any _ _ _ _ _).mono ?_; rintro e w1 ⟨rfl, hb1⟩; have hz1 := hb1.size; (try simp at hz1); obtain ⟨hc1, hf1⟩ := blk_at hb1 w.heap.size (by (try simp) <;> omega); have hlt1 : w.heap.size < w1.heap.size := by omega))
  go_loopw [5, 6, 7, 8] (fun nowv atv spv iv wr => iv = .int .i64 0 ∧ atv = .slice none 0 0 ∧ wr = w1) (fun _ _ _ _ _ => 0)
  case atStart => exact ⟨rfl, rfl, rfl⟩
  case round =>
    obtain ⟨rfl, rfl, rfl⟩ := hrel
    go_wp2_with fail
    go_loopw [11] (fun iv w2 => iv = .int .i64 0 ∧ w2 = wr) (fun _ _ => 0)
    case atStart => exact ⟨rfl, rfl⟩
    case round =>
      obtain ⟨rfl, rfl⟩ := hrel
      go_wp2_with (first | (go_at_call 11; refine (awake_any _).mono ?_; rintro e w9 ⟨rfl, hb9⟩) | (go_at_call 15; refine (right_any _ _ _ _ _).mono ?_; rintro e w1 ⟨rfl, hb1⟩; have hz1 := hb1.size; (try simp at hz1); obtain ⟨hc1, hf1⟩ := blk_at hb1 w.heap.size (by (try simp) <;> omega); have hlt1 : w.heap.size < w1.heap.size := by omega))
      go_ret
      exact ⟨rfl, (by repeat (first | (with_reducible exact Below.refl _ _) | (with_reducible refine Below.drew ?_) | ((with_reducible refine Below.alloc ?_ ?_ _); rotate_left; focus ((try simp) <;> omega)) | ((with_reducible refine Below.setCell ?_ ?_ _); rotate_left; focus ((try simp) <;> omega)) | ((with_reducible refine Below.trans ?_ (Below.mono (by assumption) ?_)); rotate_left; focus ((try simp) <;> omega))))⟩

theorem walk (r bu l a : Int) (A : Option Addr) (n cap : Nat) (w : World) (hcap : n ≤ cap) (h : 0 < n → ∃ g o, ∃ W C : Nat → Int, A = some ⟨g, o, none⟩ ∧ ActsAt w g o n W C) :
    Calls Try.prog 7 #[.agg #[.int .i64 r, .int .i64 bu, .int .i64 l, .int .i64 a], .slice A n cap] w fun e w' => e = .returned (.bool true) ∧ Below w.heap.size w w' := by
  by_cases hbad : ¬ Vld r bu l a ∨ 40 < n
  · exact walk_bad r bu l a A n cap w hbad
  · have hv : Vld r bu l a := Classical.byContradiction fun hh => hbad (.inl hh)
    rcases Nat.eq_zero_or_pos n with h0 | h0
    · subst h0
      exact walk_zero r bu l a A cap w hv
    · obtain ⟨g, o, W, C, rfl, ha⟩ := h h0
      exact walk_some r bu l a g o n cap W C w hv h0 (by omega) hcap ha

theorem cells_act : Try.prog.cellsOf 41 = 2 := by kernel_rfl

theorem acts_of {H : Type} {enc : TypeId × Value → H} {w : World} {g o n fuel : Nat} (hg : g < w.heap.size)
    (h : ∀ i, i < n → ∃ cs x, cs.length = Try.prog.cellsOf 41 ∧ (∀ j, j < Try.prog.cellsOf 41 → w.cell? ⟨g, o + i * Try.prog.cellsOf 41 + j, none⟩ = cs[j]?) ∧ DataW.trod enc Try.prog w 0 (fun _ => true) true fuel 41 cs = some x) :
    ∃ W C : Nat → Int, ActsAt w g o n W C := by
  rw [cells_act] at h
  have h2 : ∀ i, i < n → ∃ z : Int × Int, w.cell? ⟨g, o + i * 2, none⟩ = some (.int .i64 z.1) ∧ w.cell? ⟨g, o + i * 2 + 1, none⟩ = some (.int .i64 z.2) := by
    intro i hi
    obtain ⟨cs, x, hl, hc, ht⟩ := h i hi
    obtain ⟨y0, y1, m, _, _, k0, k1⟩ := trod_struct2 Try.underlying41 ht
    obtain ⟨z0, e0, _, _⟩ := DataW.trod_int Try.underlying3 k0
    obtain ⟨z1, e1, _, _⟩ := DataW.trod_int Try.underlying3 k1
    match cs, hl with
    | [c0, c1], _ =>
      have cc : Try.prog.cellsOf 3 = 1 := by kernel_rfl
      simp [cc] at e0 e1
      subst e0 e1
      exact ⟨(z0, z1), by simpa using hc 0 (by omega), by simpa using hc 1 (by omega)⟩
  obtain ⟨f, hf⟩ := Go.Deep.choose_lt h2
  exact ⟨fun i => (f i).1, fun i => (f i).2, hg, hf⟩

set_option maxRecDepth 100000 in
theorem lifted (os : Os) (started : os.Started) (H : Type) (enc : TypeId × Value → H) :
    ReturnsInHanded {} Try.checked os 7 .any (Rows.budgetBoundsSpec.pre6 enc Try.prog Try.f7 Rows.budgetBoundsRow.domain false) (Rows.budgetBoundsSpec.post enc Try.prog Try.f7 false true false false) := by
  refine returnsInHanded_of_change (C := Try.checked) own started (by kernel_rfl) Try.func7
    (ChangeSpec.witness6 (enc := enc) (C := Try.checked) false ⟨#[], #[.agg #[.int .i64 0, .int .i64 0, .int .i64 0, .int .i64 0], .slice none 0 0], []⟩ 8 (by kernel_rfl) (by kernel_rfl) (by kernel_rfl) (by kernel_rfl)) ?_
  intro W base args ds gs before hval0 hW hcnd _
  have hval : ∀ (j : Nat) t v, Try.f7.params[j]? = some t → args[j]? = some v → Value.okWide Try.prog W .any base t v := hval0
  have hW' := hW
  obtain ⟨p, q, hA0, hV, rfl, hfz, hnd⟩ := hW
  have hA : DataW.TrodAll enc Try.prog W 0 (fun _ => true) true Try.f7.params.toList args.toList ds p := hA0
  have hA1 := hA
  rw [Try.params7] at hA hval
  obtain ⟨rfl, rfl⟩ := trodVars_none hV
  simp only [List.append_nil] at hW'
  have hcall : Calls Try.prog 7 args W fun e w' => e = .returned (.bool true) ∧ Below W.heap.size W w' := by
    clear hA0 hval0 hV hcnd hfz hnd
    obtain ⟨v0, v1, d0, d1, p0, p1, rfl, rfl, rfl, h0, h1⟩ := trodAll_two hA
    obtain ⟨c0, c1, c2, c3, y0, y1, y2, y3, m, rfl, _, _, k0, k1, k2, k3⟩ := open_agg4 Try.underlying23 (by kernel_rfl) (show Try.prog.cellsOf 23 = 4 by kernel_rfl) (hval 0 23 v0 rfl rfl) h0
    obtain ⟨r, e0, _, wr⟩ := DataW.trod_int Try.underlying3 k0
    obtain rfl : c0 = .int .i64 r := by simpa using e0
    obtain ⟨bu, e1, _, wbu⟩ := DataW.trod_int Try.underlying3 k1
    obtain rfl : c1 = .int .i64 bu := by simpa using e1
    obtain ⟨l, e2, _, wl⟩ := DataW.trod_int Try.underlying3 k2
    obtain rfl : c2 = .int .i64 l := by simpa using e2
    obtain ⟨a, e3, _, wa⟩ := DataW.trod_int Try.underlying3 k3
    obtain rfl : c3 = .int .i64 a := by simpa using e3
    obtain ⟨A, n, c, rfl, hnc, _, hcells⟩ := slice_read Try.underlying38 (by rw [cells_act]; omega) (hval 1 38 v1 rfl rfl) h1
    refine walk r bu l a A n c W hnc fun hn => ?_
    obtain ⟨g, o, fuel, rfl, hg, hel⟩ := hcells hn
    obtain ⟨W', C', ha⟩ := acts_of hg hel
    exact ⟨g, o, W', C', rfl, ha⟩
  have hds : ds.length = 2 := (trodAll_length hA).1
  refine hcall.mono fun e W' ⟨he, hb⟩ => ?_
  subst he
  refine ⟨_, rfl, law_post hW' rfl hA1 (by kernel_rfl) laidOut Try.underlying4 (by kernel_rfl) ?_ hb⟩
  match ds, hds with
  | [_, _], _ => rfl

theorem proved : Rows.BudgetBoundsSaid :=
  OpenClaim.holds_of_wide 7 Try.f7 rfl rfl rfl rfl rfl rfl rfl ⟨rfl, rfl, rfl, rfl, rfl⟩ rfl rfl rfl rfl rfl (by kernel_rfl) Try.func7 (by kernel_rfl)
    (of_decide_eq_true (by kernel_rfl)) (by unfold Func.isWrapper; first | (rw [if_pos (by decide +kernel)]; kernel_rfl) | (rw [if_neg (by decide +kernel)]; exact ⟨rfl, rfl⟩))
    (fun os started H enc _ => lifted os started H enc)
#print axioms proved
end Go.Proofs.Ytalnbjcfcpkdlaa.budgetBounds
