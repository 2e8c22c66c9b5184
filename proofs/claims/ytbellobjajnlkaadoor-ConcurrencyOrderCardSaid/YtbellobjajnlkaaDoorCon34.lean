/-
  The walks of groups: the laws' awake, few, do and model.
-/
import Derived.Test.YtbellobjajnlkaaDoorCon33



namespace Go.Proofs.YtbellobjajnlkaaDoor
open Go.RowKit

def sA (n : UInt8) : Str := ⟨⟨#[n]⟩, by show (1 : Nat) ≤ _; omega⟩
def rA (n : UInt8) : JRef := ⟨sA 114, sA n⟩
theorem rA_short (n : UInt8) : shortR (rA n) := ⟨by show (1 : Nat) < _; omega, by show (1 : Nat) < _; omega⟩
def aw1 : List G := [⟨sA 103, rA 97, []⟩]
def aw2 : List G := [⟨sA 103, rA 97, [rA 98]⟩]
def aw3 : List G := [⟨sA 103, rA 97, [rA 98, rA 99]⟩]
def aw4 : List G := [⟨sA 103, zR, [rA 98, rA 99]⟩]
theorem aw_e1 : enterE [] (sA 103) (rA 97) 0 = 0 ∧ enterL [] (sA 103) (rA 97) 0 = aw1 ∧ enterRun [] (sA 103) (rA 97) 0 = true := by decide +kernel
theorem aw_e2 : enterE aw1 (sA 103) (rA 98) 0 = 0 ∧ enterL aw1 (sA 103) (rA 98) 0 = aw2 ∧ enterRun aw1 (sA 103) (rA 98) 0 = false := by decide +kernel
theorem aw_e3 : enterE aw2 (sA 103) (rA 99) 0 = 0 ∧ enterL aw2 (sA 103) (rA 99) 0 = aw3 ∧ enterRun aw2 (sA 103) (rA 99) 0 = false := by decide +kernel
theorem aw_l : leaveL aw3 (rA 97) = aw4 := by decide +kernel
theorem aw_m : mayB aw4 (sA 103) (rA 98) = true ∧ mayB aw4 (sA 103) (rA 99) = false := by decide +kernel
theorem short_of {gs : List G} (h : ∀ g ∈ gs, g.name.1.size < 4294967281 ∧ g.wait.length ≤ 1000 ∧ ∀ r ∈ jobsG g, shortR r) (hl : gs.length ≤ 1) (ha : (allG gs).length ≤ 1000) : MildG gs :=
  ⟨by omega, by omega, fun g hg => by have := (h g hg).2.1; omega, fun g hg => (h g hg).1, fun r hr => by
    obtain ⟨g, hg, hr⟩ := all_mem.1 hr
    exact (h g hg).2.2 r hr⟩
theorem aw_mild {gs : List G} (h : gs = [] ∨ gs = aw1 ∨ gs = aw2 ∨ gs = aw3 ∨ gs = aw4) : MildG gs := by
  have hsh : ∀ r ∈ [rA 97, rA 98, rA 99], shortR r := fun r hr => by
    simp only [List.mem_cons, List.not_mem_nil, or_false] at hr
    rcases hr with rfl | rfl | rfl <;> exact rA_short _
  have hj : ∀ g ∈ aw1 ++ aw2 ++ aw3 ++ aw4, ∀ r ∈ jobsG g, r ∈ [rA 97, rA 98, rA 99] := by decide +kernel
  have hn : ∀ g ∈ aw1 ++ aw2 ++ aw3 ++ aw4, g.name = sA 103 ∧ g.wait.length ≤ 1000 := by decide +kernel
  have hna : (sA 103).1.size < 4294967281 := by show (1 : Nat) < _; omega
  have hg : ∀ g ∈ aw1 ++ aw2 ++ aw3 ++ aw4, g.name.1.size < 4294967281 ∧ g.wait.length ≤ 1000 ∧ ∀ r ∈ jobsG g, shortR r := fun g hg => by
    obtain ⟨h1, h2⟩ := hn g hg
    exact ⟨by rw [h1]; exact hna, h2, fun r hr => hsh r (hj g hg r hr)⟩
  rcases h with rfl | rfl | rfl | rfl | rfl
  · exact short_of (fun g hg => absurd hg (by simp)) (by decide) (by decide +kernel)
  · exact short_of (fun g h => hg g (by simp [h])) (by decide) (by decide +kernel)
  · exact short_of (fun g h => hg g (by simp [h])) (by decide) (by decide +kernel)
  · exact short_of (fun g h => hg g (by simp [h])) (by decide) (by decide +kernel)
  · exact short_of (fun g h => hg g (by simp [h])) (by decide) (by decide +kernel)
theorem aw_size : (sA 103).1.size < 4294967281 := by show (1 : Nat) < _; omega
def I0 : I64 := ⟨0, by omega⟩
set_option maxRecDepth 100000 in
set_option maxHeartbeats 4000000 in
theorem awake_any (w : World) (hG : Glob w) : Calls Tryd.prog 12 #[] w fun e w' => e = .returned (.bool true) ∧ Below w.heap.size w w' := by
  have h1 : Hid (∀ W, Below w.heap.size w W → Calls Tryd.prog 14 #[.slice none 0 0, .string ⟨#[103]⟩, .agg #[.string ⟨#[114]⟩, .string ⟨#[97]⟩], .int .i64 0] W (fun e w' => ∃ (A' : Option Addr) (c' : Nat) (l' : List Grp) (Ac : Option Addr) (Cc n : Nat), e = .returned (.tuple #[.slice A' l'.length c', .agg #[.bool true, .slice Ac n Cc], .int .i64 0]) ∧ St w' A' c' l' aw1 ∧ Below W.heap.size W w')) := Lib.hid fun W hb => by
    have h := enter_st (W0 := W) (W := W) (A := none) (c := 0) (L := []) (gs := []) ⟨RwG.nil, Nat.le_refl _, rfl⟩ (Below.refl _ _) (aw_mild (.inl rfl)) (hG.keep hb) (sA 103) (rA 97) I0 aw_size (rA_short _)
    rw [show I0.1 = 0 from rfl, aw_e1.1, aw_e1.2.1, aw_e1.2.2] at h
    exact h.mono fun e w' ⟨A', c', l', Ac, Cc, h1, h2, _, h3⟩ => ⟨A', c', l', Ac, Cc, _, h1, h2, h3⟩
  have h2 : Hid (∀ W W0 A c L, St W0 A c L aw1 → Below W0.heap.size W0 W → Below w.heap.size w W → Calls Tryd.prog 14 #[.slice A L.length c, .string ⟨#[103]⟩, .agg #[.string ⟨#[114]⟩, .string ⟨#[98]⟩], .int .i64 0] W (fun e w' => ∃ (A' : Option Addr) (c' : Nat) (l' : List Grp) (Ac : Option Addr) (Cc n : Nat), e = .returned (.tuple #[.slice A' l'.length c', .agg #[.bool false, .slice Ac n Cc], .int .i64 0]) ∧ St w' A' c' l' aw2 ∧ Below W.heap.size W w')) := Lib.hid fun W W0 A c L hs hb hb2 => by
    have h := enter_st hs hb (aw_mild (.inr (.inl rfl))) (hG.keep hb2) (sA 103) (rA 98) I0 aw_size (rA_short _)
    rw [show I0.1 = 0 from rfl, aw_e2.1, aw_e2.2.1, aw_e2.2.2] at h
    exact h.mono fun e w' ⟨A', c', l', Ac, Cc, h1, h2, _, h3⟩ => ⟨A', c', l', Ac, Cc, _, h1, h2, h3⟩
  have h3 : Hid (∀ W W0 A c L, St W0 A c L aw2 → Below W0.heap.size W0 W → Below w.heap.size w W → Calls Tryd.prog 14 #[.slice A L.length c, .string ⟨#[103]⟩, .agg #[.string ⟨#[114]⟩, .string ⟨#[99]⟩], .int .i64 0] W (fun e w' => ∃ (A' : Option Addr) (c' : Nat) (l' : List Grp) (Ac : Option Addr) (Cc n : Nat), e = .returned (.tuple #[.slice A' l'.length c', .agg #[.bool false, .slice Ac n Cc], .int .i64 0]) ∧ St w' A' c' l' aw3 ∧ Below W.heap.size W w')) := Lib.hid fun W W0 A c L hs hb hb2 => by
    have h := enter_st hs hb (aw_mild (.inr (.inr (.inl rfl)))) (hG.keep hb2) (sA 103) (rA 99) I0 aw_size (rA_short _)
    rw [show I0.1 = 0 from rfl, aw_e3.1, aw_e3.2.1, aw_e3.2.2] at h
    exact h.mono fun e w' ⟨A', c', l', Ac, Cc, h1, h2, _, h3⟩ => ⟨A', c', l', Ac, Cc, _, h1, h2, h3⟩
  have h4 : Hid (∀ W W0 A c L, St W0 A c L aw3 → Below W0.heap.size W0 W → Below w.heap.size w W → Calls Tryd.prog 23 #[.slice A L.length c, .agg #[.string ⟨#[114]⟩, .string ⟨#[97]⟩]] W fun e w' => ∃ (A' : Option Addr) (c' : Nat) (l' : List Grp), e = .returned (.slice A' l'.length c') ∧ St w' A' c' l' aw4 ∧ Below W.heap.size W w') := Lib.hid fun W W0 A c L hs hb hb2 => by
    have h := leave_st hs hb (aw_mild (.inr (.inr (.inr (.inl rfl))))) (hG.keep hb2) (rA 97)
    rw [aw_l] at h
    exact h
  have h5 : Hid (∀ W W0 A c L, St W0 A c L aw4 → Below W0.heap.size W0 W → Below w.heap.size w W → Calls Tryd.prog 25 #[.slice A L.length c, .string ⟨#[103]⟩, .agg #[.string ⟨#[114]⟩, .string ⟨#[98]⟩]] W fun e w' => e = .returned (.bool true) ∧ Below W.heap.size W w') := Lib.hid fun W W0 A c L hs hb hb2 => by
    have h := may_st hs hb (aw_mild (.inr (.inr (.inr (.inr rfl))))) (hG.keep hb2) (sA 103) (rA 98)
    rw [aw_m.1] at h
    exact h
  have h6 : Hid (∀ W W0 A c L, St W0 A c L aw4 → Below W0.heap.size W0 W → Below w.heap.size w W → Calls Tryd.prog 25 #[.slice A L.length c, .string ⟨#[103]⟩, .agg #[.string ⟨#[114]⟩, .string ⟨#[99]⟩]] W fun e w' => e = .returned (.bool false) ∧ Below W.heap.size W w') := Lib.hid fun W W0 A c L hs hb hb2 => by
    have h := may_st hs hb (aw_mild (.inr (.inr (.inr (.inr rfl))))) (hG.keep hb2) (sA 103) (rA 99)
    rw [aw_m.2] at h
    exact h
  replace hG := Lib.hid hG
  go_enter Tryd.func12, Tryd.ntmps12
  go_upto_region 2 with (first
    | (go_at_call 39; go_must (refine (ljob_any _ _).mono ?_; rintro e w11 ⟨rfl, hb11⟩; have hz11 := hb11.size; (try simp at hz11); skip))
    | (go_at_call 14; with_reducible refine (h1.out _ (by repeat (first | (with_reducible exact Below.refl _ _) | (with_reducible refine Below.drew ?_) | (with_reducible refine below_drewN ?_ _) | ((with_reducible refine Below.alloc ?_ ?_ _); rotate_left; focus ((try simp) <;> omega)) | ((with_reducible refine Below.setCell ?_ ?_ _); rotate_left; focus ((try simp) <;> omega)) | ((with_reducible refine Below.trans ?_ (Below.mono (by assumption) ?_)); rotate_left; focus ((try simp) <;> omega))))).mono ?_; rintro e w1 ⟨A1, c1, L1, Ac1, Cc1, n1, rfl, hst1, hb1⟩; have hz1 := hb1.size; (try simp at hz1); skip))
  have hq1 : w.heap.size ≤ w1.heap.size := by omega
  go_upto_region 3 with (first
    | (go_at_call 39; go_must (refine (ljob_any _ _).mono ?_; rintro e w21 ⟨rfl, hb21⟩; have hz21 := hb21.size; (try simp at hz21); have hs121 : w1.heap.size < w21.heap.size := (by omega); obtain ⟨ua21, va21⟩ := blk_at hb21 w1.heap.size (by (try simp) <;> omega)))
    | (go_at_call 14; with_reducible refine (h2.out _ w1 A1 c1 L1 hst1 (by repeat (first | (with_reducible exact Below.refl _ _) | (with_reducible refine Below.drew ?_) | (with_reducible refine below_drewN ?_ _) | ((with_reducible refine Below.alloc ?_ ?_ _); rotate_left; focus ((try simp) <;> omega)) | ((with_reducible refine Below.setCell ?_ ?_ _); rotate_left; focus ((try simp) <;> omega)) | ((with_reducible refine Below.trans ?_ (Below.mono (by assumption) ?_)); rotate_left; focus ((try simp) <;> omega)))) (by repeat (first | (with_reducible exact Below.refl _ _) | (with_reducible refine Below.drew ?_) | (with_reducible refine below_drewN ?_ _) | ((with_reducible refine Below.alloc ?_ ?_ _); rotate_left; focus ((try simp) <;> omega)) | ((with_reducible refine Below.setCell ?_ ?_ _); rotate_left; focus ((try simp) <;> omega)) | ((with_reducible refine Below.trans ?_ (Below.mono (by assumption) ?_)); rotate_left; focus ((try simp) <;> omega))))).mono ?_; rintro e w2 ⟨A2, c2, L2, Ac2, Cc2, n2, rfl, hst2, hb2⟩; have hz2 := hb2.size; (try simp at hz2); have hs12 : w1.heap.size < w2.heap.size := (by omega); obtain ⟨ua2, va2⟩ := blk_at hb2 w1.heap.size (by (try simp) <;> omega)))
  go_upto_region 4 with (first
    | (go_at_call 39; go_must (refine (ljob_any _ _).mono ?_; rintro e w31 ⟨rfl, hb31⟩; have hz31 := hb31.size; (try simp at hz31); have hs131 : w1.heap.size < w31.heap.size := (by omega); obtain ⟨ua31, va31⟩ := blk_at hb31 w1.heap.size (by (try simp) <;> omega); have hs231 : w2.heap.size < w31.heap.size := (by omega); obtain ⟨ub31, vb31⟩ := blk_at hb31 w2.heap.size (by (try simp) <;> omega)))
    | (go_at_call 14; with_reducible refine (h3.out _ w2 A2 c2 L2 hst2 (by repeat (first | (with_reducible exact Below.refl _ _) | (with_reducible refine Below.drew ?_) | (with_reducible refine below_drewN ?_ _) | ((with_reducible refine Below.alloc ?_ ?_ _); rotate_left; focus ((try simp) <;> omega)) | ((with_reducible refine Below.setCell ?_ ?_ _); rotate_left; focus ((try simp) <;> omega)) | ((with_reducible refine Below.trans ?_ (Below.mono (by assumption) ?_)); rotate_left; focus ((try simp) <;> omega)))) (by repeat (first | (with_reducible exact Below.refl _ _) | (with_reducible refine Below.drew ?_) | (with_reducible refine below_drewN ?_ _) | ((with_reducible refine Below.alloc ?_ ?_ _); rotate_left; focus ((try simp) <;> omega)) | ((with_reducible refine Below.setCell ?_ ?_ _); rotate_left; focus ((try simp) <;> omega)) | ((with_reducible refine Below.trans ?_ (Below.mono (by assumption) ?_)); rotate_left; focus ((try simp) <;> omega))))).mono ?_; rintro e w3 ⟨A3, c3, L3, Ac3, Cc3, n3, rfl, hst3, hb3⟩; have hz3 := hb3.size; (try simp at hz3); have hs13 : w1.heap.size < w3.heap.size := (by omega); obtain ⟨ua3, va3⟩ := blk_at hb3 w1.heap.size (by (try simp) <;> omega); have hs23 : w2.heap.size < w3.heap.size := (by omega); obtain ⟨ub3, vb3⟩ := blk_at hb3 w2.heap.size (by (try simp) <;> omega)))
  go_wp2_with (first
    | (go_at_call 39; go_must (refine (ljob_any _ _).mono ?_; rintro e w41 ⟨rfl, hb41⟩; have hz41 := hb41.size; (try simp at hz41); have hs141 : w1.heap.size < w41.heap.size := (by omega); obtain ⟨ua41, va41⟩ := blk_at hb41 w1.heap.size (by (try simp) <;> omega); have hs241 : w2.heap.size < w41.heap.size := (by omega); obtain ⟨ub41, vb41⟩ := blk_at hb41 w2.heap.size (by (try simp) <;> omega); have hs341 : w3.heap.size < w41.heap.size := (by omega); obtain ⟨uc41, vc41⟩ := blk_at hb41 w3.heap.size (by (try simp) <;> omega)))
    | (go_at_call 23; go_must (refine (h4.out _ w3 A3 c3 L3 hst3 (by repeat (first | (with_reducible exact Below.refl _ _) | (with_reducible refine Below.drew ?_) | (with_reducible refine below_drewN ?_ _) | ((with_reducible refine Below.alloc ?_ ?_ _); rotate_left; focus ((try simp) <;> omega)) | ((with_reducible refine Below.setCell ?_ ?_ _); rotate_left; focus ((try simp) <;> omega)) | ((with_reducible refine Below.trans ?_ (Below.mono (by assumption) ?_)); rotate_left; focus ((try simp) <;> omega)))) (by repeat (first | (with_reducible exact Below.refl _ _) | (with_reducible refine Below.drew ?_) | (with_reducible refine below_drewN ?_ _) | ((with_reducible refine Below.alloc ?_ ?_ _); rotate_left; focus ((try simp) <;> omega)) | ((with_reducible refine Below.setCell ?_ ?_ _); rotate_left; focus ((try simp) <;> omega)) | ((with_reducible refine Below.trans ?_ (Below.mono (by assumption) ?_)); rotate_left; focus ((try simp) <;> omega))))).mono ?_; rintro e w4 ⟨A4, c4, L4, rfl, hst4, hb4⟩; have hz4 := hb4.size; (try simp at hz4); have hs14 : w1.heap.size < w4.heap.size := (by omega); obtain ⟨ua4, va4⟩ := blk_at hb4 w1.heap.size (by (try simp) <;> omega); have hs24 : w2.heap.size < w4.heap.size := (by omega); obtain ⟨ub4, vb4⟩ := blk_at hb4 w2.heap.size (by (try simp) <;> omega); have hs34 : w3.heap.size < w4.heap.size := (by omega); obtain ⟨uc4, vc4⟩ := blk_at hb4 w3.heap.size (by (try simp) <;> omega)))
    | (go_at_call 25; with_reducible refine (h5.out _ w4 A4 c4 L4 hst4 (by repeat (first | (with_reducible exact Below.refl _ _) | (with_reducible refine Below.drew ?_) | (with_reducible refine below_drewN ?_ _) | ((with_reducible refine Below.alloc ?_ ?_ _); rotate_left; focus ((try simp) <;> omega)) | ((with_reducible refine Below.setCell ?_ ?_ _); rotate_left; focus ((try simp) <;> omega)) | ((with_reducible refine Below.trans ?_ (Below.mono (by assumption) ?_)); rotate_left; focus ((try simp) <;> omega)))) (by repeat (first | (with_reducible exact Below.refl _ _) | (with_reducible refine Below.drew ?_) | (with_reducible refine below_drewN ?_ _) | ((with_reducible refine Below.alloc ?_ ?_ _); rotate_left; focus ((try simp) <;> omega)) | ((with_reducible refine Below.setCell ?_ ?_ _); rotate_left; focus ((try simp) <;> omega)) | ((with_reducible refine Below.trans ?_ (Below.mono (by assumption) ?_)); rotate_left; focus ((try simp) <;> omega))))).mono ?_; rintro e w5 ⟨rfl, hb5⟩; have hz5 := hb5.size; (try simp at hz5))
    | (go_at_call 25; with_reducible refine (h6.out _ w4 A4 c4 L4 hst4 (by repeat (first | (with_reducible exact Below.refl _ _) | (with_reducible refine Below.drew ?_) | (with_reducible refine below_drewN ?_ _) | ((with_reducible refine Below.alloc ?_ ?_ _); rotate_left; focus ((try simp) <;> omega)) | ((with_reducible refine Below.setCell ?_ ?_ _); rotate_left; focus ((try simp) <;> omega)) | ((with_reducible refine Below.trans ?_ (Below.mono (by assumption) ?_)); rotate_left; focus ((try simp) <;> omega)))) (by repeat (first | (with_reducible exact Below.refl _ _) | (with_reducible refine Below.drew ?_) | (with_reducible refine below_drewN ?_ _) | ((with_reducible refine Below.alloc ?_ ?_ _); rotate_left; focus ((try simp) <;> omega)) | ((with_reducible refine Below.setCell ?_ ?_ _); rotate_left; focus ((try simp) <;> omega)) | ((with_reducible refine Below.trans ?_ (Below.mono (by assumption) ?_)); rotate_left; focus ((try simp) <;> omega))))).mono ?_; rintro e w6 ⟨rfl, hb6⟩; have hz6 := hb6.size; (try simp at hz6)))
  go_ret
  exact ⟨rfl, (by repeat (first | (with_reducible exact Below.refl _ _) | (with_reducible refine Below.drew ?_) | (with_reducible refine below_drewN ?_ _) | ((with_reducible refine Below.alloc ?_ ?_ _); rotate_left; focus ((try simp) <;> omega)) | ((with_reducible refine Below.setCell ?_ ?_ _); rotate_left; focus ((try simp) <;> omega)) | ((with_reducible refine Below.trans ?_ (Below.mono (by assumption) ?_)); rotate_left; focus ((try simp) <;> omega))))⟩
end Go.Proofs.YtbellobjajnlkaaDoor
