/-
  The walks of shards: the split, by the reference.
-/
import Derived.Test.YtdjepnilmgembaaGreatDoorShw15
import Derived.Test.YtdjepnilmgembaaGreatDoorNames4
import Derived.Deep.RegionHeld3
import Derived.Deep.DeepCutAuto


namespace Go.Proofs.YtdjepnilmgembaaGreatDoor
open Go.RowKit
attribute [local go_sem ↓] Go.wp_at_zero Go.wp_at_succ

theorem rw_drew {α : Type} {enc : α → List Value} {k : Nat} {w : World} {B : Nat} {A : Option Addr} {l : List α} (h : Rw enc k w B A l) : Rw enc k w.drew B A l := h
theorem grown_undrew {w w' : World} {row : Option Nat} (h : w.drew.grownBy w' row) : w.grownBy w' row := ⟨h.os, h.tape, h.output, h.size, h.block⟩
def lenV : Value → Nat
  | .slice _ n _ => n
  | _ => 0
set_option maxRecDepth 100000 in
set_option maxHeartbeats 40000000 in
theorem rshsplit_any (A B : Option Addr) (c d : Nat) (l : List Str) (ts : List Tm) (n : Int) (w : World) (hr : Rw sE 1 w w.heap.size A l) (hlc : l.length ≤ c) (hn : l.length ≤ 1000) (hs : ∀ x ∈ l, x.1.size < 4294967281) (ht : Rw tmE 2 w w.heap.size B ts) (htn : ts.length ≤ 1000000) :
    Calls Tryz.prog 15 #[.slice A l.length c, .slice B ts.length d, .int .i64 n] w fun e w' => ∃ A' c' L, e = .returned (.tuple #[.slice A' L.length c', .int .i64 (splErr l n)]) ∧ RwS w' w'.heap.size A' L ∧ L.map SlR.l = shdL ts l n ∧ Below w.heap.size w w' := by
  have hck0 : ∀ W, Below w.heap.size w W → Calls Tryz.prog 38 #[.slice A l.length c, .int .i64 n] W fun e w' => e = .returned (.int .i64 (splErr l n)) ∧ Below W.heap.size W w' := fun W hb => rcheck_any A c l n W ((hr.below hb (Nat.le_refl _)).more hb.size) (by omega) hlc hs
  obtain ⟨E, hE⟩ : ∃ E, splErr l n = E := ⟨_, rfl⟩
  rw [hE] at hck0 ⊢
  have hck := Lib.hid hck0
  clear hck0
  by_cases hE0 : E = 0
  rotate_left
  · have hEb : (E != 0) = true := by rw [bne_iff_ne]; exact hE0
    have hf : Hid (shdL ts l n = []) := Lib.hid (shdL_no (by rw [hE]; exact hE0))
    replace hE := Lib.hid hE
    replace hE0 := Lib.hid hE0
    clear hr ht hs
    go_enter Tryz.func15, Tryz.ntmps15
    go_wp2_with (go_at_call 38; go_must (refine (hck.out _ (Below.refl _ _)).mono ?_; rintro e w1 ⟨rfl, hb1⟩; have hz1 := hb1.size))
    go_ret2
    exact ⟨none, 0, [], rfl, ⟨Rw.nil, fun _ h => absurd h List.not_mem_nil⟩, by rw [hf.out]; rfl, hb1⟩
  subst hE0
  obtain ⟨n1, n2, _, _, hnd⟩ := splErr_ok hE
  obtain ⟨N, rfl⟩ : ∃ N : Nat, n = (N : Int) := ⟨n.toNat, by omega⟩
  have hN0 : 0 < N := by omega
  have hN1 : N ≤ 64 := by omega
  clear n1 n2
  have hout : Hid (shdL ts l (N : Int) = (fillB (clockT ts) N (ordL (clockT ts) l)).map fun b => srt b.1) := Lib.hid (by rw [shdL_ok hE, Int.toNat_natCast]; rfl)
  replace hE := Lib.hid hE
  replace hnd := Lib.hid hnd
  have hmd : Hid (∀ W, Below w.heap.size w W → Calls Tryz.prog 11 #[.slice B ts.length d] W fun e w' => e = .returned (.int .i64 (medT ts)) ∧ Below W.heap.size W w') := Lib.hid fun W hb => rmedt_any B d ts W ((ht.below hb (Nat.le_refl _)).more hb.size) (by omega)
  have htm : Hid (∀ (s : Str) W, Below w.heap.size w W → Calls Tryz.prog 28 #[.string s.1, .slice B ts.length d, .int .i64 (medT ts)] W fun e w' => e = .returned (.int .i64 (clockT ts s)) ∧ W = w') := Lib.hid fun s W hb => rtimet_any B d ts s (medT ts) W ((ht.below hb (Nat.le_refl _)).more hb.size) (by omega)
  have hnx0 : Hid (∀ (W : World) (A' : Option Addr) (C' : Nat) (lf : List Str), Below w.heap.size w W → Rw sE 1 W W.heap.size A' lf → 0 < lf.length → lf.length ≤ 1000 → lf.Nodup → Calls Tryz.prog 39 #[.slice A' lf.length C', .slice B ts.length d, .int .i64 (medT ts)] W fun e w' => ∃ i x, e = .returned (.int .i64 ((i : Nat) : Int)) ∧ lf[i]? = some x ∧ ordL (clockT ts) lf = x :: ordL (clockT ts) (lf.eraseIdx i) ∧ Below W.heap.size W w') := Lib.hid fun W A' C' lf hb h1 h2 h3 h4 => rnext_any A' B C' d lf ts W h1 h2 (by omega) h4 ((ht.below hb (Nat.le_refl _)).more hb.size) htn
  have hti := Lib.hid (time_in ts)
  have hmx : Hid (∀ k b, b ∈ fillB (clockT ts) N ((ordL (clockT ts) l).take k) → b.1.length ≤ 1000 ∧ 0 ≤ b.2 ∧ b.2 ≤ 1125899906842624000) := Lib.hid fun k b hb => by
    obtain ⟨h1, h2, h3⟩ := fill_small hN0 _ hb
    rw [List.length_take, ord_len] at h1 h3
    have h9 : ((min k l.length : Nat) : Int) ≤ 1000 := by omega
    exact ⟨by omega, h2, by omega⟩
  obtain ⟨ins, his, is0, is1, is2⟩ := info_parts str_info
  obtain ⟨inl, hil, il0, il1, il2⟩ := info_parts list_info
  obtain ⟨iI, hI0, zI0, zI1, zI2⟩ := info_parts int_info
  have hrd := Lib.hid hr
  clear hr ht hs
  generalize medT ts = M at hmd htm hnx0
  generalize clockT ts = ck at hout htm hnx0 hti hmx
  go_enter Tryz.func15, Tryz.ntmps15
  go_upto_region 5 with (first
    | (go_at_call 38; go_must (refine (hck.out _ (Below.refl _ _)).mono ?_; rintro e w0 ⟨rfl, hb0⟩; have hz0 := hb0.size))
    | (go_at_call 11; go_must (refine (hmd.out _ hb0).mono ?_; rintro e w1 ⟨rfl, hb1'⟩; have hz1 := hb1'.size; have hb1 : Below w.heap.size w w1 := hb0.trans (hb1'.mono hz0))))
  have hr1 : Hid (Rw sE 1 w1 w1.heap.size A l) := Lib.hid ((hrd.out.below hb1 (Nat.le_refl _)).more hb1.size)
  replace hb1 := Lib.hid hb1
  clear hb0 hb1'
  have hmkl : ∀ W : World, (Instr.makeSlice 28 (.int .i64 (N : Int)) (.int .i64 (N : Int))).run Tryz.prog W = .ok (.slice (some ⟨W.heap.size, 0, none⟩) N N) (W.alloc (.cells (madeCells #[.slice none 0 0] N) 22)) := fun W => by
    have h := run_make (P := Tryz.prog) W 28 22 inl _ Tryz.underlying28 hil il0 .i64 .i64 (N : Int) (N : Int) (by omega) (Int.le_refl _) (by rw [il2]; omega) (by omega)
    simp only [Int.toNat_natCast] at h
    rw [il1, Nat.mul_one] at h
    exact h
  have hmkz : ∀ W : World, (Instr.makeSlice 46 (.int .i64 (N : Int)) (.int .i64 (N : Int))).run Tryz.prog W = .ok (.slice (some ⟨W.heap.size, 0, none⟩) N N) (W.alloc (.cells (madeCells #[.int .i64 0] N) 3)) := fun W => by
    have h := run_make (P := Tryz.prog) W 46 3 iI _ Tryz.underlying46 hI0 zI0 .i64 .i64 (N : Int) (N : Int) (by omega) (Int.le_refl _) (by rw [zI2]; omega) (by omega)
    simp only [Int.toNat_natCast] at h
    rw [zI1, Nat.mul_one] at h
    exact h
  go_cut [10, 11, 12] (fun s10 s11 s12 wx => ∃ (go gl : Nat) (A2 : Option Addr) (C2 : Nat), s10 = .slice (some ⟨go, 0, none⟩) N N ∧ s11 = .slice (some ⟨gl, 0, none⟩) N N ∧ s12 = .slice A2 l.length C2 ∧ StR w1 wx go gl A2 C2 N (List.replicate N []) (List.replicate N 0) l (List.replicate N ⟨none, 0, []⟩))
  case first =>
    go_region_law (first
      | (refine step_append_rw rfl (.tmp 28) (.tmp 29) _ rfl sE_len sE_one w1.heap.size 9 ins _ 16 Tryz.underlying22 his is0 is1 is2 rfl (by omega) (.slice (some ⟨w1.heap.size, 0, none⟩) 0 0) [] rfl (Own.drew (own_new_s (by (try simp) <;> omega) (by (try simp) <;> omega))) w1.heap.size A _ c l rfl rfl (hr1.out.below (show Below w1.heap.size w1 _ from (by repeat (first | (with_reducible exact Below.refl _ _) | (with_reducible refine Below.drew ?_) | (with_reducible refine below_drewN ?_ _) | ((with_reducible refine Below.alloc ?_ ?_ _); rotate_left; focus ((try simp) <;> omega)) | ((with_reducible refine Below.setCell ?_ ?_ _); rotate_left; focus ((try simp) <;> omega)) | ((with_reducible refine Below.trans ?_ (Below.mono (by assumption) ?_)); rotate_left; focus ((try simp) <;> omega))))) (Nat.le_refl _)) (by simp [maxLen]; omega) (by (try simp) <;> omega) (by (try simp) <;> omega) ?_
         intro v6 w6 hown6 hg6 hat6
         rw [List.nil_append] at hown6
         obtain ⟨A6, c6, hv6, _, _, _⟩ := hown6.form
         subst hv6
         have hz6 := hg6.size
         (try simp at hz6)
         have hb6 : Below w1.heap.size w1 w6 := Below.grown (by repeat (first | (with_reducible exact Below.refl _ _) | (with_reducible refine Below.drew ?_) | (with_reducible refine below_drewN ?_ _) | ((with_reducible refine Below.alloc ?_ ?_ _); rotate_left; focus ((try simp) <;> omega)) | ((with_reducible refine Below.setCell ?_ ?_ _); rotate_left; focus ((try simp) <;> omega)) | ((with_reducible refine Below.trans ?_ (Below.mono (by assumption) ?_)); rotate_left; focus ((try simp) <;> omega)))) hg6 (by (try simp) <;> omega) (fun q hq => by simp [Value.ownBlock] at hq; omega)
         replace hown6 := Lib.hid hown6
         replace hg6 := Lib.hid hg6
         clear hat6)
      | (refine step_append_rw rfl (.tmp 28) (.tmp 29) _ rfl sE_len sE_one w1.heap.size 9 ins _ 16 Tryz.underlying22 his is0 is1 is2 rfl (by omega) (.slice (some ⟨(w1.heap.size + 1), 0, none⟩) 0 0) [] rfl (Own.drew (own_new_s (by (try simp) <;> omega) (by (try simp) <;> omega))) w1.heap.size A _ c l rfl rfl (hr1.out.below (show Below w1.heap.size w1 _ from (by repeat (first | (with_reducible exact Below.refl _ _) | (with_reducible refine Below.drew ?_) | (with_reducible refine below_drewN ?_ _) | ((with_reducible refine Below.alloc ?_ ?_ _); rotate_left; focus ((try simp) <;> omega)) | ((with_reducible refine Below.setCell ?_ ?_ _); rotate_left; focus ((try simp) <;> omega)) | ((with_reducible refine Below.trans ?_ (Below.mono (by assumption) ?_)); rotate_left; focus ((try simp) <;> omega))))) (Nat.le_refl _)) (by simp [maxLen]; omega) (by (try simp) <;> omega) (by (try simp) <;> omega) ?_
         intro v6 w6 hown6 hg6 hat6
         rw [List.nil_append] at hown6
         obtain ⟨A6, c6, hv6, _, _, _⟩ := hown6.form
         subst hv6
         have hz6 := hg6.size
         (try simp at hz6)
         have hb6 : Below w1.heap.size w1 w6 := Below.grown (by repeat (first | (with_reducible exact Below.refl _ _) | (with_reducible refine Below.drew ?_) | (with_reducible refine below_drewN ?_ _) | ((with_reducible refine Below.alloc ?_ ?_ _); rotate_left; focus ((try simp) <;> omega)) | ((with_reducible refine Below.setCell ?_ ?_ _); rotate_left; focus ((try simp) <;> omega)) | ((with_reducible refine Below.trans ?_ (Below.mono (by assumption) ?_)); rotate_left; focus ((try simp) <;> omega)))) hg6 (by (try simp) <;> omega) (fun q hq => by simp [Value.ownBlock] at hq; omega)
         replace hown6 := Lib.hid hown6
         replace hg6 := Lib.hid hg6
         clear hat6)
      | (refine step_append_rw rfl (.tmp 28) (.tmp 29) _ rfl sE_len sE_one w1.heap.size 9 ins _ 16 Tryz.underlying22 his is0 is1 is2 rfl (by omega) (.slice (some ⟨(w1.heap.size + 2), 0, none⟩) 0 0) [] rfl (Own.drew (own_new_s (by (try simp) <;> omega) (by (try simp) <;> omega))) w1.heap.size A _ c l rfl rfl (hr1.out.below (show Below w1.heap.size w1 _ from (by repeat (first | (with_reducible exact Below.refl _ _) | (with_reducible refine Below.drew ?_) | (with_reducible refine below_drewN ?_ _) | ((with_reducible refine Below.alloc ?_ ?_ _); rotate_left; focus ((try simp) <;> omega)) | ((with_reducible refine Below.setCell ?_ ?_ _); rotate_left; focus ((try simp) <;> omega)) | ((with_reducible refine Below.trans ?_ (Below.mono (by assumption) ?_)); rotate_left; focus ((try simp) <;> omega))))) (Nat.le_refl _)) (by simp [maxLen]; omega) (by (try simp) <;> omega) (by (try simp) <;> omega) ?_
         intro v6 w6 hown6 hg6 hat6
         rw [List.nil_append] at hown6
         obtain ⟨A6, c6, hv6, _, _, _⟩ := hown6.form
         subst hv6
         have hz6 := hg6.size
         (try simp at hz6)
         have hb6 : Below w1.heap.size w1 w6 := Below.grown (by repeat (first | (with_reducible exact Below.refl _ _) | (with_reducible refine Below.drew ?_) | (with_reducible refine below_drewN ?_ _) | ((with_reducible refine Below.alloc ?_ ?_ _); rotate_left; focus ((try simp) <;> omega)) | ((with_reducible refine Below.setCell ?_ ?_ _); rotate_left; focus ((try simp) <;> omega)) | ((with_reducible refine Below.trans ?_ (Below.mono (by assumption) ?_)); rotate_left; focus ((try simp) <;> omega)))) hg6 (by (try simp) <;> omega) (fun q hq => by simp [Value.ownBlock] at hq; omega)
         replace hown6 := Lib.hid hown6
         replace hg6 := Lib.hid hg6
         clear hat6)
      | (refine step_append_rw rfl (.tmp 28) (.tmp 29) _ rfl sE_len sE_one w1.heap.size 9 ins _ 16 Tryz.underlying22 his is0 is1 is2 rfl (by omega) (.slice (some ⟨w1.heap.size, 0, none⟩) 0 0) [] rfl (Own.drew ((own_new_s (by (try simp) <;> omega) (by (try simp) <;> omega)).alloc _)) w1.heap.size A _ c l rfl rfl (hr1.out.below (show Below w1.heap.size w1 _ from (by repeat (first | (with_reducible exact Below.refl _ _) | (with_reducible refine Below.drew ?_) | (with_reducible refine below_drewN ?_ _) | ((with_reducible refine Below.alloc ?_ ?_ _); rotate_left; focus ((try simp) <;> omega)) | ((with_reducible refine Below.setCell ?_ ?_ _); rotate_left; focus ((try simp) <;> omega)) | ((with_reducible refine Below.trans ?_ (Below.mono (by assumption) ?_)); rotate_left; focus ((try simp) <;> omega))))) (Nat.le_refl _)) (by simp [maxLen]; omega) (by (try simp) <;> omega) (by (try simp) <;> omega) ?_
         intro v6 w6 hown6 hg6 hat6
         rw [List.nil_append] at hown6
         obtain ⟨A6, c6, hv6, _, _, _⟩ := hown6.form
         subst hv6
         have hz6 := hg6.size
         (try simp at hz6)
         have hb6 : Below w1.heap.size w1 w6 := Below.grown (by repeat (first | (with_reducible exact Below.refl _ _) | (with_reducible refine Below.drew ?_) | (with_reducible refine below_drewN ?_ _) | ((with_reducible refine Below.alloc ?_ ?_ _); rotate_left; focus ((try simp) <;> omega)) | ((with_reducible refine Below.setCell ?_ ?_ _); rotate_left; focus ((try simp) <;> omega)) | ((with_reducible refine Below.trans ?_ (Below.mono (by assumption) ?_)); rotate_left; focus ((try simp) <;> omega)))) hg6 (by (try simp) <;> omega) (fun q hq => by simp [Value.ownBlock] at hq; omega)
         replace hown6 := Lib.hid hown6
         replace hg6 := Lib.hid hg6
         clear hat6)
      | (refine step_append_rw rfl (.tmp 28) (.tmp 29) _ rfl sE_len sE_one w1.heap.size 9 ins _ 16 Tryz.underlying22 his is0 is1 is2 rfl (by omega) (.slice (some ⟨(w1.heap.size + 1), 0, none⟩) 0 0) [] rfl (Own.drew ((own_new_s (by (try simp) <;> omega) (by (try simp) <;> omega)).alloc _)) w1.heap.size A _ c l rfl rfl (hr1.out.below (show Below w1.heap.size w1 _ from (by repeat (first | (with_reducible exact Below.refl _ _) | (with_reducible refine Below.drew ?_) | (with_reducible refine below_drewN ?_ _) | ((with_reducible refine Below.alloc ?_ ?_ _); rotate_left; focus ((try simp) <;> omega)) | ((with_reducible refine Below.setCell ?_ ?_ _); rotate_left; focus ((try simp) <;> omega)) | ((with_reducible refine Below.trans ?_ (Below.mono (by assumption) ?_)); rotate_left; focus ((try simp) <;> omega))))) (Nat.le_refl _)) (by simp [maxLen]; omega) (by (try simp) <;> omega) (by (try simp) <;> omega) ?_
         intro v6 w6 hown6 hg6 hat6
         rw [List.nil_append] at hown6
         obtain ⟨A6, c6, hv6, _, _, _⟩ := hown6.form
         subst hv6
         have hz6 := hg6.size
         (try simp at hz6)
         have hb6 : Below w1.heap.size w1 w6 := Below.grown (by repeat (first | (with_reducible exact Below.refl _ _) | (with_reducible refine Below.drew ?_) | (with_reducible refine below_drewN ?_ _) | ((with_reducible refine Below.alloc ?_ ?_ _); rotate_left; focus ((try simp) <;> omega)) | ((with_reducible refine Below.setCell ?_ ?_ _); rotate_left; focus ((try simp) <;> omega)) | ((with_reducible refine Below.trans ?_ (Below.mono (by assumption) ?_)); rotate_left; focus ((try simp) <;> omega)))) hg6 (by (try simp) <;> omega) (fun q hq => by simp [Value.ownBlock] at hq; omega)
         replace hown6 := Lib.hid hown6
         replace hg6 := Lib.hid hg6
         clear hat6)
      | (refine step_append_rw rfl (.tmp 28) (.tmp 29) _ rfl sE_len sE_one w1.heap.size 9 ins _ 16 Tryz.underlying22 his is0 is1 is2 rfl (by omega) (.slice (some ⟨w1.heap.size, 0, none⟩) 0 0) [] rfl (Own.drew (((own_new_s (by (try simp) <;> omega) (by (try simp) <;> omega)).alloc _).alloc _)) w1.heap.size A _ c l rfl rfl (hr1.out.below (show Below w1.heap.size w1 _ from (by repeat (first | (with_reducible exact Below.refl _ _) | (with_reducible refine Below.drew ?_) | (with_reducible refine below_drewN ?_ _) | ((with_reducible refine Below.alloc ?_ ?_ _); rotate_left; focus ((try simp) <;> omega)) | ((with_reducible refine Below.setCell ?_ ?_ _); rotate_left; focus ((try simp) <;> omega)) | ((with_reducible refine Below.trans ?_ (Below.mono (by assumption) ?_)); rotate_left; focus ((try simp) <;> omega))))) (Nat.le_refl _)) (by simp [maxLen]; omega) (by (try simp) <;> omega) (by (try simp) <;> omega) ?_
         intro v6 w6 hown6 hg6 hat6
         rw [List.nil_append] at hown6
         obtain ⟨A6, c6, hv6, _, _, _⟩ := hown6.form
         subst hv6
         have hz6 := hg6.size
         (try simp at hz6)
         have hb6 : Below w1.heap.size w1 w6 := Below.grown (by repeat (first | (with_reducible exact Below.refl _ _) | (with_reducible refine Below.drew ?_) | (with_reducible refine below_drewN ?_ _) | ((with_reducible refine Below.alloc ?_ ?_ _); rotate_left; focus ((try simp) <;> omega)) | ((with_reducible refine Below.setCell ?_ ?_ _); rotate_left; focus ((try simp) <;> omega)) | ((with_reducible refine Below.trans ?_ (Below.mono (by assumption) ?_)); rotate_left; focus ((try simp) <;> omega)))) hg6 (by (try simp) <;> omega) (fun q hq => by simp [Value.ownBlock] at hq; omega)
         replace hown6 := Lib.hid hown6
         replace hg6 := Lib.hid hg6
         clear hat6)
      | (go_simp; done)
      | fail "none")
    all_goals (go_wp2_with fail; go_meet)
    all_goals exact ⟨_, _, A6, c6, rfl, rfl, rfl, StR.start (by repeat (first
      | (with_reducible exact own_new_sl (by (try simp) <;> omega) (by (try simp) <;> omega) (by omega))
      | (with_reducible exact own_new_z (by (try simp) <;> omega) (by (try simp) <;> omega) (by omega))
      | (with_reducible refine Own.drew ?_)
      | (with_reducible refine Own.alloc ?_ _)
      | ((with_reducible refine Own.grown ?_ hg6.out ?_); rotate_left; (focus (intro q hq; simp [Value.ownBlock] at hq; (try simp [Value.ownBlock]); omega))))) (by repeat (first
        | (with_reducible exact own_new_sl (by (try simp) <;> omega) (by (try simp) <;> omega) (by omega))
        | (with_reducible exact own_new_z (by (try simp) <;> omega) (by (try simp) <;> omega) (by omega))
        | (with_reducible refine Own.drew ?_)
        | (with_reducible refine Own.alloc ?_ _)
        | ((with_reducible refine Own.grown ?_ hg6.out ?_); rotate_left; (focus (intro q hq; simp [Value.ownBlock] at hq; (try simp [Value.ownBlock]); omega))))) (by repeat (first | (with_reducible exact hown6.out) | (with_reducible refine Own.drew ?_) | (with_reducible refine Own.alloc ?_ _))) (by repeat (first | (with_reducible exact Below.refl _ _) | (with_reducible refine Below.drew ?_) | (with_reducible refine below_drewN ?_ _) | ((with_reducible refine Below.alloc ?_ ?_ _); rotate_left; focus ((try simp) <;> omega)) | ((with_reducible refine Below.setCell ?_ ?_ _); rotate_left; focus ((try simp) <;> omega)) | ((with_reducible refine Below.trans ?_ (Below.mono (by assumption) ?_)); rotate_left; focus ((try simp) <;> omega))))⟩
  case rest =>
    obtain ⟨go, gl, A2, C2, rfl, rfl, rfl, hS0⟩ := hcut
    obtain ⟨ord, hO⟩ : ∃ ord, ordL ck l = ord := ⟨_, rfl⟩
    have hol : ord.length = l.length := by rw [← hO]; exact ord_len _ _
    have hnd0 : l.Nodup := hnd.out
    rw [hO] at hout
    have hst : Hid (StR w1 wc go gl A2 C2 N ((fillB ck N (ord.take 0)).map (·.1)) ((fillB ck N (ord.take 0)).map (·.2)) l (List.replicate N ⟨none, 0, []⟩)) := Lib.hid (by
      rw [List.take_zero, fill_nil, List.map_replicate, List.map_replicate]
      exact hS0)
    clear hS0 hmkl hmkz
    replace hol := Lib.hid hol
    go_wp2_with fail
    go_loopw [12] (fun v12 wr => ∃ (k : Nat) (A3 : Option Addr) (C3 : Nat) (lf : List Str) (O : List SlR), v12 = .slice A3 lf.length C3 ∧ StR w1 wr go gl A3 C3 N ((fillB ck N (ord.take k)).map (·.1)) ((fillB ck N (ord.take k)).map (·.2)) lf O ∧ ordL ck lf = ord.drop k ∧ lf.Nodup ∧ lf.length + k = l.length) (fun v12 _ => lenV v12)
    case atStart => exact ⟨0, A2, C2, l, _, rfl, hst.out, by rw [hO, List.drop_zero], hnd0, rfl⟩
    case round =>
      obtain ⟨k, A3, C3, lf, O, rfl, hS, hord, hlnd, hlk⟩ := hrel
      have hz := hS.bel.size
      have hb0r : Hid (Below w.heap.size w wr) := Lib.hid (hb1.out.trans (hS.bel.mono hb1.out.size))
      by_cases hpos : 0 < lf.length
      · have i0 : (0 : Int) < (lf.length : Int) := by omega
        have hl1 : lf.length ≤ 1000 := by omega
        have hnx1 : Hid (Calls Tryz.prog 39 #[.slice A3 lf.length C3, .slice B ts.length d, .int .i64 M] wr fun e w' => ∃ i x, e = .returned (.int .i64 ((i : Nat) : Int)) ∧ lf[i]? = some x ∧ ordL ck lf = x :: ordL ck (lf.eraseIdx i) ∧ Below wr.heap.size wr w') := Lib.hid (hnx0.out wr A3 C3 lf hb0r.out (hS.row.reads sE_len) hpos hl1 hlnd)
        have hle : Hid (∀ W, Below wr.heap.size wr W → Calls Tryz.prog 40 #[.slice (some ⟨gl, 0, none⟩) N N] W fun e w' => e = .returned (.int .i64 ((leastB (fillB ck N (ord.take k)) : Nat) : Int)) ∧ Below W.heap.size W w') := Lib.hid fun W hb => by
          have hD := hS.dlen
          have h := rleast_any (some ⟨gl, 0, none⟩) N (fillB ck N (ord.take k)) ((fillB ck N (ord.take k)).map (·.2)) W rfl (((hS.lds.reads (c := N) zE_len).below hb (Nat.le_refl _)).more hb.size) (by omega) (by omega)
          rw [hD] at h
          exact h
        have hmx2 := hmx.out k
        have hlb := least_in (t := ck) hN0 (ord.take k)
        obtain ⟨bins, hbins⟩ : ∃ bins, fillB ck N (ord.take k) = bins := ⟨_, rfl⟩
        have hfp := Lib.hid fun (x : Str) (b : Bin) (hx : ord[k]? = some x) (hb : (fillB ck N (ord.take k))[leastB (fillB ck N (ord.take k))]? = some b) => fill_put (t := ck) (N := N) (ord := ord) (k := k) hx hb
        rw [hO] at hmx2
        rw [hbins] at hS hle hmx2 hlb hfp
        obtain ⟨J, hJ⟩ : ∃ J, leastB bins = J := ⟨_, rfl⟩
        rw [hJ] at hle hlb hfp
        have hblen : bins.length = N := by rw [← hbins]; exact fill_len _ _ _
        obtain ⟨bb, hbb⟩ := get_some (show J < bins.length by omega)
        obtain ⟨bm1, bm2, bm3⟩ := hmx2 bb (List.mem_of_getElem? hbb)
        replace hmx2 := Lib.hid hmx2
        replace hbins := Lib.hid hbins
        replace hJ := Lib.hid hJ
        replace hblen := Lib.hid hblen
        replace hbb := Lib.hid hbb
        replace hS := Lib.hid hS
        replace hord := Lib.hid hord
        replace hlnd := Lib.hid hlnd
        replace hO := Lib.hid hO
        go_upto_region 9 with (first
          | (go_at_call 39; go_must (refine hnx1.out.mono ?_; rintro e w2 ⟨i, x, rfl, hix, hcons, hb2⟩; have hz2 := hb2.size; replace hix := Lib.hid hix; replace hcons := Lib.hid hcons))
          | (go_at_call 40; go_must (refine (hle.out _ hb2).mono ?_; rintro e w3 ⟨rfl, hb3⟩; have hz3 := hb3.size)))
        have hb23 : Below wr.heap.size wr w3 := hb2.trans (hb3.mono hz2)
        have hS3 := hS.out.all hb23
        have hdr : ord.drop k = x :: ordL ck (lf.eraseIdx i) := by rw [← hord.out]; exact hcons.out
        have hxo : ord[k]? = some x := by
          have := congrArg List.head? hdr
          rwa [List.head?_drop, List.head?_cons] at this
        have hdr2 : Hid (ordL ck (lf.eraseIdx i) = ord.drop (k + 1)) := Lib.hid (by
          have := congrArg List.tail hdr
          rw [List.tail_drop, List.tail_cons] at this
          exact this.symm)
        obtain ⟨fp1, fp2⟩ := hfp.out x bb hxo hbb.out
        replace fp1 := Lib.hid fp1
        replace fp2 := Lib.hid fp2
        clear hfp hdr
        have hil : i < lf.length := (List.getElem?_eq_some_iff.1 hix.out).1
        have hel : (lf.eraseIdx i).length + 1 = lf.length := by rw [List.length_eraseIdx_of_lt hil]; omega
        have hend : Hid ((lf.eraseIdx i).Nodup) := Lib.hid (List.Nodup.sublist (List.eraseIdx_sublist lf i) hlnd.out)
        have hele : Hid (lf.eraseIdx i = lf.take i ++ lf.drop (i + 1)) := Lib.hid (List.eraseIdx_eq_take_drop_succ lf i)
        obtain ⟨y, hy⟩ := get_some (show J < O.length by rw [hS3.olen]; exact hlb)
        have hyl : y.l = bb.1 := by
          have h1 := congrArg (fun L => L[J]?) hS3.eq
          simp only [List.getElem?_map, hy, hbb.out, Option.map_some, Option.some.injEq] at h1
          exact h1
        have hy1 : y.l.length ≤ 1000 := by rw [hyl]; exact bm1
        have hdj : (bins.map (·.2))[J]? = some bb.2 := by rw [List.getElem?_map, hbb.out]; rfl
        obtain ⟨gq, C4, hv4, hgq, hgq2⟩ := World.ownsRow.form hS3.row hpos
        simp only [Value.slice.injEq] at hv4
        obtain ⟨rfl, _, rfl⟩ := hv4
        have cx := (own_cells (j := 0) (u := .string x.1) sE_len hS3.row hix.out rfl).1
        rw [Nat.mul_one, Nat.add_zero] at cx
        have cy := own_cells (j := 0) (u := .slice y.A y.l.length y.c) slE_len hS3.out hy rfl
        rw [Nat.mul_one, Nat.add_zero] at cy
        obtain ⟨cy, fy⟩ := cy
        have hgo := hS3.out.lt go rfl
        have hgl := hS3.lds.lt gl rfl
        have hyo : Hid (Own sE 1 9 w3 w1.heap.size (.slice y.A y.l.length y.c) y.l) := Lib.hid (hS3.own.each y (List.mem_cons_of_mem _ (List.mem_of_getElem? hy)))
        have hyne : Hid (∀ q, (slV y).ownBlock = some q → q ≠ go) := Lib.hid fun q hq e => own_apart (hS3.own.each y (List.mem_cons_of_mem _ (List.mem_of_getElem? hy))) hS3.out (by decide) q hq (by rw [e]; rfl)
        have hqne : Hid (∀ q, (slV y).ownBlock = some q → q ≠ gq) := Lib.hid fun q hq e => (List.pairwise_cons.1 hS3.own.apart).1 y (List.mem_of_getElem? hy) gq rfl (by rw [hq, e])
        have j0 : (0 : Int) ≤ (i : Int) := by omega
        have j1 : (i : Int) < (lf.length : Int) := by omega
        have j2 : (0 : Int) ≤ (J : Int) := by omega
        have j3 : (J : Int) < (N : Int) := by omega
        have hngo : go ≠ w3.heap.size := by omega
        have hngq : gq ≠ w3.heap.size := by omega
        replace hS3 := Lib.hid hS3
        replace hy := Lib.hid hy
        replace hyl := Lib.hid hyl
        replace hdj := Lib.hid hdj
        replace hxo := Lib.hid hxo
        clear hS
        go_cut [13] (fun s13 wx => s13 = .int .i64 (i : Int) ∧ ∃ (A6 : Option Addr) (c6 : Nat), StR w1 wx go gl (some ⟨gq, 0, none⟩) C3 N ((bins.map (·.1)).set J (y.l ++ [x])) (bins.map (·.2)) lf (O.set J ⟨A6, c6, y.l ++ [x]⟩))
        case first =>
          go_region_law (first
            | ((refine step_append_rw rfl (.tmp 45) (.tmp 50) _ rfl sE_len sE_one w1.heap.size 9 ins _ 16 Tryz.underlying22 his is0 is1 is2 rfl (by omega) (.slice y.A y.l.length y.c) y.l rfl (Own.drew (hyo.out.alloc _)) (w3.heap.size + 1) (some ⟨w3.heap.size, 0, none⟩) 1 1 [x] rfl rfl (rw_drew (rw_str1 (Nat.lt_succ_self _))) (by (try simp [maxLen]) <;> omega) (by (try simp) <;> omega) (by (try simp) <;> omega) ?_)
               intro v6 w6 hown6 hg6 hat6
               obtain ⟨A6, c6, hv6, _, _, _⟩ := hown6.form
               rw [List.length_append, List.length_singleton] at hv6
               subst hv6
               have hg6' : (w3.alloc (.cells #[.string x.1] 9)).grownBy w6 (slV y).ownBlock := grown_undrew hg6
               obtain ⟨e6, f6⟩ := grown_blk hg6' go (by (try simp) <;> omega) (fun e => hyne.out go e.symm rfl)
               have cy6 : w6.cell? ⟨go, J, none⟩ = some (.slice y.A y.l.length y.c) := (e6 J).trans (by go_simp)
               have fy6 : w6.frozen? ⟨go, J, none⟩ = false := (f6 J).trans (by go_simp)
               have hS6 := Lib.hid (hS3.out.put (ob := .cells #[.string x.1] 9) hy.out hown6 hg6' hat6)
               replace hown6 := Lib.hid hown6
               clear hg6 hg6' hat6 e6 f6)
            | fail "none")
          all_goals (go_wp2_with fail; go_meet)
          all_goals first | exact ⟨rfl, A6, c6, hS6.out⟩ | exact ⟨rfl, A6, c6, hS6.out.drew⟩
        case rest =>
          obtain ⟨rfl, A6, c6, hS5⟩ := hcut
          obtain ⟨w5, rfl⟩ : ∃ w5 : World, w5 = wc := ⟨_, rfl⟩
          have hb05 : Hid (Below w.heap.size w w5) := Lib.hid (hb1.out.trans (hS5.bel.mono hb1.out.size))
          have hz5 := hS5.bel.size
          have cx5 := (own_cells (j := 0) (u := .string x.1) sE_len hS5.row hix.out rfl).1
          rw [Nat.mul_one, Nat.add_zero] at cx5
          obtain ⟨cd5, fd5⟩ := own_cells (j := 0) (u := .int .i64 bb.2) zE_len hS5.lds hdj.out rfl
          rw [Nat.mul_one, Nat.add_zero] at cd5 fd5
          have hgl5 := hS5.lds.lt gl rfl
          have hgq5 := hS5.row.lt gq rfl
          have hglq : gl ≠ gq := fun e => own_apart hS5.lds hS5.row (by decide) gl rfl (by rw [e]; rfl)
          have hgql : gq ≠ gl := fun e => hglq e.symm
          have htms0 := fun W (hb : Below w5.heap.size w5 W) => htm.out x W (hb05.out.trans (hb.mono hb05.out.size))
          obtain ⟨t1, t2⟩ := hti.out x
          obtain ⟨X, hX⟩ : ∃ X, ck x = X := ⟨_, rfl⟩
          rw [hX] at htms0 t1 t2 fp2
          have htms := Lib.hid htms0
          clear htms0 cx cy fy hyo hyne hqne
          replace hS5 := Lib.hid hS5
          replace hX := Lib.hid hX
          go_upto_region 10 with fail
          go_cut [13] (fun s13 wx => s13 = .int .i64 (i : Int) ∧ StR w1 wx go gl (some ⟨gq, 0, none⟩) C3 N ((bins.map (·.1)).set J (y.l ++ [x])) ((bins.map (·.2)).set J (bb.2 + X)) lf (O.set J ⟨A6, c6, y.l ++ [x]⟩))
          case first =>
            go_region_with (go_at_call 28; go_must (refine (htms.out _ (by repeat (first | (with_reducible exact Below.refl _ _) | (with_reducible refine Below.drew ?_) | (with_reducible refine below_drewN ?_ _) | ((with_reducible refine Below.alloc ?_ ?_ _); rotate_left; focus ((try simp) <;> omega)) | ((with_reducible refine Below.setCell ?_ ?_ _); rotate_left; focus ((try simp) <;> omega)) | ((with_reducible refine Below.trans ?_ (Below.mono (by assumption) ?_)); rotate_left; focus ((try simp) <;> omega))))).mono ?_; rintro e w8 ⟨rfl, rfl⟩))
            all_goals (go_wp2_with fail; go_meet)
            all_goals
              refine ⟨rfl, ?_⟩
              rw [show IntKind.i64.wrap (bb.2 + X) = bb.2 + X from IntWalk.i64_in _ (by omega)]
              first | exact hS5.out.load _ hdj.out | exact (hS5.out.load _ hdj.out).drew
          case rest =>
            obtain ⟨rfl, hS7⟩ := hcut
            obtain ⟨w7, rfl⟩ : ∃ w7 : World, w7 = wc := ⟨_, rfl⟩
            have hz7 := hS7.bel.size
            have hlr := Lib.hid (hS7.row.reads sE_len)
            have hlc3 : lf.length ≤ C3 := (own_block hS7.row).2.1
            clear cx5 cd5 fd5 hgl5 hgq5
            replace hS7 := Lib.hid hS7
            obtain ⟨i1, hi1⟩ : ∃ i1, i + 1 = i1 := ⟨_, rfl⟩
            have hwr : IntKind.i64.wrap ((i : Int) + 1) = (i1 : Int) := by rw [IntWalk.i64_in _ (by omega)]; omega
            have k1 : (i1 : Int) ≤ (lf.length : Int) := by omega
            have k2 : (0 : Int) ≤ (i1 : Int) := by omega
            have k3 : i ≤ C3 := by omega
            have k5 : i1 ≤ lf.length := by omega
            replace hi1 := Lib.hid hi1
            go_upto_region 11 with fail
            have hci2 : i1 = C3 ∨ ¬ C3 = i1 := by omega
            rcases hci2 with hci | hci
            rotate_left
            · go_region_law (first
                | (refine step_append_rw rfl (.tmp 68) (.tmp 71) _ rfl sE_len sE_one w7.heap.size 9 ins _ 16 Tryz.underlying22 his is0 is1 is2 rfl (by omega) (.slice (some ⟨w7.heap.size, 0, none⟩) 0 0) [] rfl (Own.drew (own_new_s rfl (Nat.le_refl _))) w7.heap.size (some ⟨gq, 0, none⟩) i _ (lf.take i) (by rw [List.length_take]; omega) rfl (rw_front (hlr.out.below (show Below w7.heap.size w7 _ from (by repeat (first | (with_reducible exact Below.refl _ _) | (with_reducible refine Below.drew ?_) | (with_reducible refine below_drewN ?_ _) | ((with_reducible refine Below.alloc ?_ ?_ _); rotate_left; focus ((try simp) <;> omega)) | ((with_reducible refine Below.setCell ?_ ?_ _); rotate_left; focus ((try simp) <;> omega)) | ((with_reducible refine Below.trans ?_ (Below.mono (by assumption) ?_)); rotate_left; focus ((try simp) <;> omega))))) (Nat.le_refl _))) (by (try simp [maxLen]) <;> omega) (by (try simp) <;> omega) (by (try simp) <;> omega) ?_
                   intro v8 w8 hown8 hg8 hat8
                   rw [List.nil_append] at hown8
                   have hb8 : Below w7.heap.size w7 w8 := Below.grown (by repeat (first | (with_reducible exact Below.refl _ _) | (with_reducible refine Below.drew ?_) | (with_reducible refine below_drewN ?_ _) | ((with_reducible refine Below.alloc ?_ ?_ _); rotate_left; focus ((try simp) <;> omega)) | ((with_reducible refine Below.setCell ?_ ?_ _); rotate_left; focus ((try simp) <;> omega)) | ((with_reducible refine Below.trans ?_ (Below.mono (by assumption) ?_)); rotate_left; focus ((try simp) <;> omega)))) hg8 (by (try simp) <;> omega) (fun q hq => by simp [Value.ownBlock] at hq; omega)
                   have hz8 := hb8.size
                   have hvlt8 := hown8.lt
                   clear hg8 hat8)
                | (refine step_append_rw rfl (.tmp 72) (.tmp 76) _ rfl sE_len sE_one w7.heap.size 9 ins _ 16 Tryz.underlying22 his is0 is1 is2 rfl (by omega) v8 (lf.take i) rfl ?_ w7.heap.size _ _ _ (lf.drop i1) ?_ rfl ?_ ?_ ?_ ?_ ?_
                   · exact hown8
                   · first | exact List.length_drop | (rw [List.length_drop]; omega)
                   · refine rw_behind (hlr.out.below hb8 (Nat.le_refl _)) ?_
                     (intro h; rfl)
                   · have h9 := List.length_take_le i lf
                     simp only [maxLen]; omega
                   · have h9 := List.length_take_le i lf
                     omega
                   · exact hz8
                   intro v9 w9 hown9 hg9 hat9)
                | fail "none")
              rw [← hi1.out, ← hele.out] at hown9
              obtain ⟨A9, c9, hv9, _, _, _⟩ := hown9.form
              subst hv9
              have hb9 : Below w7.heap.size w7 w9 := hb8.grown hg9 (by omega) (fun q hq => (hvlt8 q hq).1)
              have hS9 := Lib.hid (hS7.out.left hown9 hb9)
              clear hg9 hat9
              replace hown9 := Lib.hid hown9
              go_simp
              go_wp2_with fail
              go_roundw
              case rel => exact ⟨k + 1, A9, c9, lf.eraseIdx i, _, rfl, by rw [fp1.out, fp2.out, ← hyl.out]; exact hS9.out, hdr2.out, hend.out, by omega⟩
              case measure => show (lf.eraseIdx i).length < lf.length; omega
            · subst hci
              go_region_law (first
                | (refine step_append_rw rfl (.tmp 68) (.tmp 71) _ rfl sE_len sE_one w7.heap.size 9 ins _ 16 Tryz.underlying22 his is0 is1 is2 rfl (by omega) (.slice (some ⟨w7.heap.size, 0, none⟩) 0 0) [] rfl (Own.drew (own_new_s rfl (Nat.le_refl _))) w7.heap.size (some ⟨gq, 0, none⟩) i _ (lf.take i) (by rw [List.length_take]; omega) rfl (rw_front (hlr.out.below (show Below w7.heap.size w7 _ from (by repeat (first | (with_reducible exact Below.refl _ _) | (with_reducible refine Below.drew ?_) | (with_reducible refine below_drewN ?_ _) | ((with_reducible refine Below.alloc ?_ ?_ _); rotate_left; focus ((try simp) <;> omega)) | ((with_reducible refine Below.setCell ?_ ?_ _); rotate_left; focus ((try simp) <;> omega)) | ((with_reducible refine Below.trans ?_ (Below.mono (by assumption) ?_)); rotate_left; focus ((try simp) <;> omega))))) (Nat.le_refl _))) (by (try simp [maxLen]) <;> omega) (by (try simp) <;> omega) (by (try simp) <;> omega) ?_
                   intro v8 w8 hown8 hg8 hat8
                   rw [List.nil_append] at hown8
                   have hb8 : Below w7.heap.size w7 w8 := Below.grown (by repeat (first | (with_reducible exact Below.refl _ _) | (with_reducible refine Below.drew ?_) | (with_reducible refine below_drewN ?_ _) | ((with_reducible refine Below.alloc ?_ ?_ _); rotate_left; focus ((try simp) <;> omega)) | ((with_reducible refine Below.setCell ?_ ?_ _); rotate_left; focus ((try simp) <;> omega)) | ((with_reducible refine Below.trans ?_ (Below.mono (by assumption) ?_)); rotate_left; focus ((try simp) <;> omega)))) hg8 (by (try simp) <;> omega) (fun q hq => by simp [Value.ownBlock] at hq; omega)
                   have hz8 := hb8.size
                   have hvlt8 := hown8.lt
                   clear hg8 hat8)
                | (refine step_append_rw rfl (.tmp 72) (.tmp 76) _ rfl sE_len sE_one w7.heap.size 9 ins _ 16 Tryz.underlying22 his is0 is1 is2 rfl (by omega) v8 (lf.take i) rfl ?_ w7.heap.size _ _ _ (lf.drop i1) ?_ rfl ?_ ?_ ?_ ?_ ?_
                   · exact hown8
                   · first | exact List.length_drop | (rw [List.length_drop]; omega)
                   · refine rw_behind (hlr.out.below hb8 (Nat.le_refl _)) ?_
                     (intro h; exfalso; omega)
                   · have h9 := List.length_take_le i lf
                     simp only [maxLen]; omega
                   · have h9 := List.length_take_le i lf
                     omega
                   · exact hz8
                   intro v9 w9 hown9 hg9 hat9)
                | fail "none")
              rw [← hi1.out, ← hele.out] at hown9
              obtain ⟨A9, c9, hv9, _, _, _⟩ := hown9.form
              subst hv9
              have hb9 : Below w7.heap.size w7 w9 := hb8.grown hg9 (by omega) (fun q hq => (hvlt8 q hq).1)
              have hS9 := Lib.hid (hS7.out.left hown9 hb9)
              clear hg9 hat9
              replace hown9 := Lib.hid hown9
              go_simp
              go_wp2_with fail
              go_roundw
              case rel => exact ⟨k + 1, A9, c9, lf.eraseIdx i, _, rfl, by rw [fp1.out, fp2.out, ← hyl.out]; exact hS9.out, hdr2.out, hend.out, by omega⟩
              case measure => show (lf.eraseIdx i).length < lf.length; omega
      · have i0 : ¬ (0 : Int) < (lf.length : Int) := by omega
        obtain rfl := List.eq_nil_of_length_eq_zero (show lf.length = 0 by omega)
        have hkl : k = l.length := by simpa using hlk
        have htk : ord.take k = ord := List.take_of_length_le (by have := hol.out; omega)
        rw [htk] at hS
        clear hord hlnd hlk
        replace htk := Lib.hid htk
        replace hkl := Lib.hid hkl
        have hmx3 : ∀ b, b ∈ fillB ck N ord → b.1.length ≤ 1000 := fun b hb => (hmx.out k b (by rw [hO, htk.out]; exact hb)).1
        obtain ⟨bins, hbins⟩ : ∃ bins, fillB ck N ord = bins := ⟨_, rfl⟩
        have hblen : bins.length = N := by rw [← hbins]; exact fill_len _ _ _
        rw [hbins] at hS hmx3 hout
        obtain ⟨w5, rfl⟩ : ∃ w5 : World, w5 = wr := ⟨_, rfl⟩
        have hgo := hS.out.lt go rfl
        have hlab : Hid (∀ y ∈ O, Rw sE 1 w5 w5.heap.size y.A y.l) := Lib.hid fun y hy => (hS.own.each y (List.mem_cons_of_mem _ hy)).reads (n := y.l.length) (c := y.c) sE_len
        have hmO := Lib.hid hS.eq
        have hown := Lib.hid hS.out
        obtain ⟨P, hP⟩ : ∃ P, bins.map (·.1) = P := ⟨_, rfl⟩
        have hPl : P.length = N := by rw [← hP, List.length_map]; exact hblen
        have hPk : Hid (∀ p ∈ P, p.length ≤ 1000) := Lib.hid fun p hp => by
          rw [← hP] at hp
          obtain ⟨b, hb, rfl⟩ := List.mem_map.1 hp
          exact hmx3 b hb
        have hfin : Hid (shdL ts l (N : Int) = P.map srt) := Lib.hid (by rw [hout.out, ← hP, List.map_map]; rfl)
        rw [hP] at hmO
        have hPl1 := Nat.le_of_eq hPl
        have hPl2 := Nat.le_of_eq hPl.symm
        have hbel5 := hS.bel
        clear hmx3 hS
        replace hblen := Lib.hid hblen
        replace hPl := Lib.hid hPl
        replace hP := Lib.hid hP
        replace hbins := Lib.hid hbins
        go_wp2_with fail
        go_loopw [15] (fun vi wr => ∃ (k : Nat) (O8 : List SlR), vi = .int .i64 (k : Int) ∧ k ≤ N ∧ Own slE 1 22 wr w1.heap.size (.slice (some ⟨go, 0, none⟩) N N) O8 ∧ (∀ y ∈ O8, Rw sE 1 wr wr.heap.size y.A y.l) ∧ O8.map SlR.l = (P.take k).map srt ++ P.drop k ∧ Below w1.heap.size w1 wr) (fun vi _ => N - (intOf vi).toNat)
        case atStart => exact ⟨0, O, rfl, Nat.zero_le _, hown.out, hlab.out, by rw [List.take_zero, List.map_nil, List.nil_append, List.drop_zero]; exact hmO.out, hbel5⟩
        case round =>
          obtain ⟨k, O8, rfl, hk, ho, hlb, hld, hbw⟩ := hrel
          have hz9 := hbw.size
          have hOl : O8.length = N := own_len ho
          by_cases hkn : k < N
          · have i0 : (0 : Int) ≤ (k : Int) := by omega
            have i1 : (k : Int) < (N : Int) := by omega
            obtain ⟨p, hp⟩ := get_some (show k < P.length by omega)
            obtain ⟨y, hy, hyl⟩ := sorted_at hld hp
            obtain ⟨cy, fy⟩ := own_cells (j := 0) (u := .slice y.A y.l.length y.c) slE_len ho hy rfl
            rw [Nat.mul_one, Nat.add_zero] at cy fy
            have hgl := (ho.lt go rfl).2
            have hsz : y.l.length ≤ 1000 := by rw [hyl]; exact hPk.out p (List.mem_of_getElem? hp)
            have hso : Hid (∀ W, Below wr.heap.size wr W → Calls Tryz.prog 41 #[.slice y.A y.l.length y.c] W fun e w' => ∃ A' c', e = .returned (.slice A' (srt y.l).length c') ∧ Rw sE 1 w' w'.heap.size A' (srt y.l) ∧ Below W.heap.size W w') := Lib.hid fun W hb => rsorted_any y.A y.c y.l W (((hlb y (List.mem_of_getElem? hy)).below hb (Nat.le_refl _)).more hb.size) (by omega)
            have hnx := Lib.hid fun (y2 : SlR) (h2 : y2.l = srt p) => sorted_next (y := y2) hld hp h2
            replace hld := Lib.hid hld
            replace hlb := Lib.hid hlb
            replace ho := Lib.hid ho
            replace hOl := Lib.hid hOl
            replace hy := Lib.hid hy
            replace hyl := Lib.hid hyl
            replace hp := Lib.hid hp
            go_wp2_with (go_at_call 41; go_must (refine (hso.out _ (by repeat (first | (with_reducible exact Below.refl _ _) | (with_reducible refine Below.drew ?_) | (with_reducible refine below_drewN ?_ _) | ((with_reducible refine Below.alloc ?_ ?_ _); rotate_left; focus ((try simp) <;> omega)) | ((with_reducible refine Below.setCell ?_ ?_ _); rotate_left; focus ((try simp) <;> omega)) | ((with_reducible refine Below.trans ?_ (Below.mono (by assumption) ?_)); rotate_left; focus ((try simp) <;> omega))))).mono ?_; rintro e w9 ⟨A9, c9, rfl, hr9, hb9⟩; have hb10 : Below wr.heap.size wr w9 := (by repeat (first | (with_reducible exact Below.refl _ _) | (with_reducible refine Below.drew ?_) | (with_reducible refine below_drewN ?_ _) | ((with_reducible refine Below.alloc ?_ ?_ _); rotate_left; focus ((try simp) <;> omega)) | ((with_reducible refine Below.setCell ?_ ?_ _); rotate_left; focus ((try simp) <;> omega)) | ((with_reducible refine Below.trans ?_ (Below.mono (by assumption) ?_)); rotate_left; focus ((try simp) <;> omega)))); obtain ⟨e9, f9⟩ := blk_at hb10 go (by omega); have cy9 : w9.cell? ⟨go, k, none⟩ = some (.slice y.A y.l.length y.c) := (e9 k).trans cy; have fy9 : w9.frozen? ⟨go, k, none⟩ = false := (f9 k).trans fy; replace hr9 := Lib.hid hr9; clear e9 f9))
            all_goals
              have ho9 := ho.out.all hb10
              have hnew := set_cellN slE_len 0 (y := (⟨A9, c9, srt y.l⟩ : SlR)) (u := .slice A9 (srt y.l).length c9) ho9 hOl.out hy.out (by omega) rfl
              simp only [Nat.mul_one, Nat.add_zero] at hnew
              have hlb9 : Hid (∀ z ∈ O8.set k ⟨A9, c9, srt y.l⟩, Rw sE 1 (w9.setCell ⟨go, k, none⟩ (.slice A9 (srt y.l).length c9)) w9.heap.size z.A z.l) := Lib.hid fun z hz => by
                have hB : Rw sE 1 w9 w9.heap.size z.A z.l := by
                  rcases List.mem_or_eq_of_mem_set hz with h | rfl
                  · exact ((hlb.out z h).below hb10 (Nat.le_refl _)).more hb10.size
                  · exact hr9.out
                exact rws_apart hB ho9 (grown_setCell _ _ _ _) (Nat.le_refl _) (Nat.le_refl _) (full_sl ho9)
              have hld9 := Lib.hid (hnx.out ⟨A9, c9, srt y.l⟩ (by show srt y.l = srt p; rw [hyl.out]))
              have hbw9 : Hid (Below w1.heap.size w1 (w9.setCell ⟨go, k, none⟩ (.slice A9 (srt y.l).length c9))) := Lib.hid ((hbw.trans (hb10.mono (by omega))).setCell hgo.1 _)
              replace hnew := Lib.hid hnew
              replace ho9 := Lib.hid ho9
              go_wp2_with fail
              go_roundw
              case rel => exact ⟨k + 1, _, by go_num, hkn, hnew.out, fun z hz => (hlb9.out z hz).more (by simp), hld9.out, hbw9.out⟩
              case measure => simp [intOf]; omega
          · have i1 : ¬ (k : Int) < (N : Int) := by omega
            have hkk : k = N := by omega
            have hf : Hid (O8.map SlR.l = shdL ts l (N : Int)) := Lib.hid (by
              rw [hfin.out, hld, List.take_of_length_le (by omega), List.drop_eq_nil_of_le (by omega), List.append_nil])
            have hr8 := Lib.hid (RwS.mk (w := wr) (B := wr.heap.size) (ho.reads slE_len) hlb)
            replace hld := Lib.hid hld
            replace hlb := Lib.hid hlb
            replace ho := Lib.hid ho
            go_wp2_with fail
            go_ret2
            exact ⟨_, N, O8, by rw [hOl]; rfl, hr8.out, hf.out, hb1.out.trans (hbw.mono hb1.out.size)⟩
end Go.Proofs.YtdjepnilmgembaaGreatDoor
