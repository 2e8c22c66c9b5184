/-
  The walks of shards: the laws' example.
-/
import Derived.Test.YtdjepnilmgembaaGreatDoorShw13


namespace Go.Proofs.YtdjepnilmgembaaGreatDoor
open Go.RowKit

theorem rw_litl {α : Type} {enc : α → List Value} {k : Nat} (hk : ∀ x : α, (enc x).length = k) {w : World} {cs : Array Value} {T : TypeId} {l : List α} {B : Nat} (hc : cs.toList = l.flatMap enc) (hB : w.heap.size < B) : Rw enc k (w.alloc (.cells cs T)) B (some ⟨w.heap.size, 0, none⟩) l := fun _ => ⟨w.heap.size, 0, rfl, hB, fun i x hx j u hu => by
  rw [Nat.zero_add]
  exact box_cells w cs T _ _ (by rw [hc]; exact flat_at hk hx hu)⟩
theorem glob_more {w w' : World} (h : Glob w) (hb : Below w.heap.size w w') : Glob w' := h.keep hb
theorem two_of {L : List SlR} {a b : List Str} (h : L.map SlR.l = [a, b]) : ∃ x y, L = [x, y] ∧ x.l = a ∧ y.l = b := by
  match L, h with
  | [x, y], h =>
    simp only [List.map_cons, List.map_nil, List.cons.injEq, and_true] at h
    exact ⟨x, y, rfl, h.1, h.2⟩
theorem ex_small : ∀ x ∈ exL, x.1.size < 4294967281 := by decide +kernel
theorem ex_smallT : ∀ x ∈ exT, x.name.1.size ≤ 1000000 := by
  intro x hx
  simp only [exT, List.mem_cons, List.not_mem_nil, or_false] at hx
  rcases hx with rfl | rfl | rfl | rfl <;> decide
theorem ex_prt : prtE exL 2 2 = 0 ∧ prtL exT exL 2 2 = [sB, sC] := by
  obtain ⟨h1, h2⟩ := prt_ok (ts := exT) (k := 2) ex_err (by omega)
  refine ⟨h1, ?_⟩
  rw [h2, ex_spl]
  rfl
set_option maxRecDepth 100000 in
set_option maxHeartbeats 8000000 in
theorem lives_any (w : World) (hG : Glob w) : Calls Tryz.prog 9 #[] w fun e w' => e = .returned (.bool true) ∧ Below w.heap.size w w' := by
  have hsp : Hid (∀ (b1 b2 : Nat) (W : World), Rw sE 1 W W.heap.size (some ⟨b1, 0, none⟩) exL → Rw tmE 2 W W.heap.size (some ⟨b2, 0, none⟩) exT → Below w.heap.size w W → Calls Tryz.prog 14 #[.slice (some ⟨b1, 0, none⟩) 4 4, .slice (some ⟨b2, 0, none⟩) 4 4, .int .i64 2] W fun e w' => ∃ (g o c' : Nat) (xA : Option Addr) (xc : Nat), e = .returned (.tuple #[.slice (some ⟨g, o, none⟩) 2 c', .int .i64 0]) ∧ g < w'.heap.size ∧ w'.cell? ⟨g, o, none⟩ = some (.slice xA 2 xc) ∧ Rw sE 1 w' w'.heap.size xA [sA, sD] ∧ Below W.heap.size W w') := Lib.hid fun b1 b2 W h1 h2 hb => by
    refine (split_any _ _ 4 4 exL exT 2 W h1 (by decide) ex_small h2 (by decide) ex_smallT (hG.keep hb)).mono ?_
    rintro e w' ⟨A', c', L, rfl, hS, hL, hb'⟩
    rw [ex_spl] at hL
    obtain ⟨x, y, rfl, hx, hy⟩ := two_of hL
    obtain ⟨g, o, rfl, hg, hq⟩ := hS.row (by simp)
    have q0 := hq 0 x rfl 0 (.slice x.A x.l.length x.c) rfl
    rw [hx] at q0
    have hr := hS.labs x (by simp)
    rw [hx] at hr
    (try simp only [Nat.zero_mul, Nat.add_zero] at q0)
    exact ⟨g, o, c', x.A, x.c, by rw [ex_err]; rfl, hg, q0, hr, hb'⟩
  have hpt : Hid (∀ (b1 b2 : Nat) (W : World), Rw sE 1 W W.heap.size (some ⟨b1, 0, none⟩) exL → Rw tmE 2 W W.heap.size (some ⟨b2, 0, none⟩) exT → Below w.heap.size w W → Calls Tryz.prog 17 #[.slice (some ⟨b1, 0, none⟩) 4 4, .slice (some ⟨b2, 0, none⟩) 4 4, .int .i64 2, .int .i64 2] W fun e w' => ∃ A' c', e = .returned (.tuple #[.slice A' 2 c', .int .i64 0]) ∧ Rw sE 1 w' w'.heap.size A' [sB, sC] ∧ Below W.heap.size W w') := Lib.hid fun b1 b2 W h1 h2 hb => by
    refine (part_any _ _ 4 4 exL exT 2 2 (by omega) (by omega) W h1 (by decide) ex_small h2 (by decide) ex_smallT (hG.keep hb)).mono ?_
    rintro e w' ⟨A', c', P, rfl, hS, hL, hb'⟩
    rw [ex_prt.2] at hL
    subst hL
    exact ⟨A', c', by rw [ex_prt.1]; rfl, hS, hb'⟩
  have hsa : Hid (∀ (A B : Option Addr) (c d : Nat) (a b : Str) (W : World), Rw sE 1 W W.heap.size A [a, b] → Rw sE 1 W W.heap.size B [a, b] → Calls Tryz.prog 19 #[.slice A 2 c, .slice B 2 d] W fun e w' => e = .returned (.bool true) ∧ Below W.heap.size W w') := Lib.hid fun A B c d a b W h1 h2 => by
    refine (rsame_any A B c d [a, b] [a, b] W h1 h2 (by simp) (by simp)).mono ?_
    rintro e w' ⟨rfl, n, rfl⟩
    exact ⟨by rw [decide_eq_true rfl], below_drewN (Below.refl _ _) n⟩
  have hld : Hid (∀ (A : Option Addr) (b2 c : Nat) (W : World), Rw sE 1 W W.heap.size A [sA, sD] → Rw tmE 2 W W.heap.size (some ⟨b2, 0, none⟩) exT → Calls Tryz.prog 12 #[.slice A 2 c, .slice (some ⟨b2, 0, none⟩) 4 4] W fun e w' => e = .returned (.int .i64 8) ∧ Below W.heap.size W w') := Lib.hid fun A b2 c W h1 h2 => by
    have h := load_any A (some ⟨b2, 0, none⟩) c 4 [sA, sD] exT W h1 (by decide) (fun s _ => by simp only [maxLen]; exact s.2) h2 (by decide) ex_smallT
    rw [ex_load] at h
    exact h
  have hmd : Hid (∀ (b2 : Nat) (W : World), Rw tmE 2 W W.heap.size (some ⟨b2, 0, none⟩) exT → Calls Tryz.prog 10 #[.slice (some ⟨b2, 0, none⟩) 4 4] W fun e w' => e = .returned (.int .i64 3) ∧ Below W.heap.size W w') := Lib.hid fun b2 W h2 => by
    have h := median_any (some ⟨b2, 0, none⟩) 4 exT W h2 (by decide)
    rw [ex_med] at h
    exact h
  have hL1 : Hid (∀ (W : World) (g : Nat), g = W.heap.size → Rw sE 1 (W.alloc (.cells #[.string ⟨#[100]⟩, .string ⟨#[99]⟩, .string ⟨#[98]⟩, .string ⟨#[97]⟩] 9)) (g + 1) (some ⟨g, 0, none⟩) exL) := Lib.hid fun W g hg => by subst hg; exact rw_litl sE_len rfl (Nat.lt_succ_self _)
  have hTT : Hid (∀ (W : World) (g : Nat), g = W.heap.size → Rw tmE 2 (W.alloc (.cells #[.string ⟨#[97]⟩, .int .i64 5, .string ⟨#[98]⟩, .int .i64 4, .string ⟨#[99]⟩, .int .i64 3, .string ⟨#[100]⟩, .int .i64 3] 45)) (g + 1) (some ⟨g, 0, none⟩) exT) := Lib.hid fun W g hg => by subst hg; exact rw_litl tmE_len rfl (Nat.lt_succ_self _)
  have hAD : Hid (∀ (W : World) (g : Nat), g = W.heap.size → Rw sE 1 (W.alloc (.cells #[.string ⟨#[97]⟩, .string ⟨#[100]⟩] 9)) (g + 1) (some ⟨g, 0, none⟩) [sA, sD]) := Lib.hid fun W g hg => by subst hg; exact rw_litl sE_len rfl (Nat.lt_succ_self _)
  have hBC : Hid (∀ (W : World) (g : Nat), g = W.heap.size → Rw sE 1 (W.alloc (.cells #[.string ⟨#[98]⟩, .string ⟨#[99]⟩] 9)) (g + 1) (some ⟨g, 0, none⟩) [sB, sC]) := Lib.hid fun W g hg => by subst hg; exact rw_litl sE_len rfl (Nat.lt_succ_self _)
  replace hG := Lib.hid hG
  go_enter Tryz.func9, Tryz.ntmps9
  go_wp2_with (first
    | (go_at_call 14; go_must (refine (hsp.out _ _ _ ((hL1.out _ _ (by simp)).more (by simp)) (((hTT.out w w.heap.size rfl).alloc (by simp) _).more (by simp)) (by repeat (first | (with_reducible exact Below.refl _ _) | (with_reducible refine Below.drew ?_) | (with_reducible refine below_drewN ?_ _) | ((with_reducible refine Below.alloc ?_ ?_ _); rotate_left; focus ((try simp) <;> omega)) | ((with_reducible refine Below.setCell ?_ ?_ _); rotate_left; focus ((try simp) <;> omega)) | ((with_reducible refine Below.trans ?_ (Below.mono (by assumption) ?_)); rotate_left; focus ((try simp) <;> omega))))).mono ?_; rintro e w1 ⟨g, o, c1, xA, xc, rfl, hg1, q1, hx1, hb1⟩; have hz1 := hb1.size; (try simp at hz1); have hT1 := Lib.hid ((((hTT.out w w.heap.size rfl).alloc (by simp) _).below hb1 (by simp)).more (B' := w1.heap.size) (by omega)); replace hx1 := Lib.hid hx1))
    | (go_at_call 17; go_must (refine (hpt.out _ _ _ ((hL1.out _ _ (by simp)).more (by simp)) ((hT1.out.alloc (Nat.le_refl _) _).more (by simp)) (by repeat (first | (with_reducible exact Below.refl _ _) | (with_reducible refine Below.drew ?_) | (with_reducible refine below_drewN ?_ _) | ((with_reducible refine Below.alloc ?_ ?_ _); rotate_left; focus ((try simp) <;> omega)) | ((with_reducible refine Below.setCell ?_ ?_ _); rotate_left; focus ((try simp) <;> omega)) | ((with_reducible refine Below.trans ?_ (Below.mono (by assumption) ?_)); rotate_left; focus ((try simp) <;> omega))))).mono ?_; rintro e w2 ⟨A2, c2, rfl, hr2, hb2⟩; have hz2 := hb2.size; (try simp at hz2); have hT2 := Lib.hid (((hT1.out.alloc (Nat.le_refl _) _).below hb2 (by simp)).more (B' := w2.heap.size) (by omega)); have hx2 := Lib.hid (((hx1.out.alloc (Nat.le_refl _) _).below hb2 (by simp)).more (B' := w2.heap.size) (by omega)); have q2 := (hb2.cell (p := ⟨g, o, none⟩) (by (try simp) <;> omega)).trans ((World.cell?_alloc_lt _ _ _ (by show g < _; omega)).trans q1); replace hr2 := Lib.hid hr2))
    | (go_at_call 19; (with_reducible refine (hsa.out xA _ xc _ sA sD _ ((hx2.out.alloc (Nat.le_refl _) _).more (by simp)) ((hAD.out _ _ (by simp)).more (by simp))).mono ?_); rintro e w3 ⟨rfl, hb3⟩; have hz3 := hb3.size; (try simp at hz3); have hT3 := Lib.hid (((hT2.out.alloc (Nat.le_refl _) _).below hb3 (by simp)).more (B' := w3.heap.size) (by omega)); have hx3 := Lib.hid (((hx2.out.alloc (Nat.le_refl _) _).below hb3 (by simp)).more (B' := w3.heap.size) (by omega)); have hr3 := Lib.hid (((hr2.out.alloc (Nat.le_refl _) _).below hb3 (by simp)).more (B' := w3.heap.size) (by omega)); have q3 := (hb3.cell (p := ⟨g, o, none⟩) (by (try simp) <;> omega)).trans ((World.cell?_alloc_lt _ _ _ (by show g < _; omega)).trans q2))
    | (go_at_call 19; (with_reducible refine (hsa.out A2 _ c2 _ sB sC _ ((hr3.out.alloc (Nat.le_refl _) _).more (by simp)) ((hBC.out _ _ (by simp)).more (by simp))).mono ?_); rintro e w4 ⟨rfl, hb4⟩; have hz4 := hb4.size; (try simp at hz4); have hT4 := Lib.hid (((hT3.out.alloc (Nat.le_refl _) _).below hb4 (by simp)).more (B' := w4.heap.size) (by omega)); have hx4 := Lib.hid (((hx3.out.alloc (Nat.le_refl _) _).below hb4 (by simp)).more (B' := w4.heap.size) (by omega)); have q4 := (hb4.cell (p := ⟨g, o, none⟩) (by (try simp) <;> omega)).trans ((World.cell?_alloc_lt _ _ _ (by show g < _; omega)).trans q3))
    | (go_at_call 12; go_must (refine (hld.out _ _ _ _ hx4.out hT4.out).mono ?_; rintro e w5 ⟨rfl, hb5⟩; have hz5 := hb5.size; have hT5 := Lib.hid ((hT4.out.below hb5 (Nat.le_refl _)).more hb5.size)))
    | (go_at_call 10; go_must (refine (hmd.out _ _ hT5.out).mono ?_; rintro e w6 ⟨rfl, hb6⟩; have hz6 := hb6.size)))
  go_ret
  exact ⟨rfl, (by repeat (first | (with_reducible exact Below.refl _ _) | (with_reducible refine Below.drew ?_) | (with_reducible refine below_drewN ?_ _) | ((with_reducible refine Below.alloc ?_ ?_ _); rotate_left; focus ((try simp) <;> omega)) | ((with_reducible refine Below.setCell ?_ ?_ _); rotate_left; focus ((try simp) <;> omega)) | ((with_reducible refine Below.trans ?_ (Below.mono (by assumption) ?_)); rotate_left; focus ((try simp) <;> omega))))⟩
end Go.Proofs.YtdjepnilmgembaaGreatDoor
