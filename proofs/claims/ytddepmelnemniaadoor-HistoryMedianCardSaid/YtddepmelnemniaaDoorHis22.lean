/-
  The walks of histories: results added, by the program: what is refused first.
-/
import Derived.Test.YtddepmelnemniaaDoorHis21



namespace Go.Proofs.YtddepmelnemniaaDoor
open Go.RowKit

theorem Own.base {α : Type} {enc : α → List Value} {k : Nat} {e : TypeId} {w : World} {b b' : Nat} {v : Value} {l : List α} (h : Own enc k e w b v l) (hb : b' ≤ b) : Own enc k e w b' v l := by
  refine ⟨h.1, ?_⟩
  rcases h.2 with hn | ⟨g, cap, cur, rfl, hb1, r⟩
  · exact .inl hn
  · exact .inr ⟨g, cap, cur, rfl, by omega, r⟩
set_option maxRecDepth 100000 in
set_option maxHeartbeats 4000000 in
theorem add_first (A : Option Addr) (c : Nat) (l : List Hst) (Ar : Option Addr) (cr : Nat) (rs : List Res) (code : U64) (now : I64) (w : World) (hr : RwH w w.heap.size A l) (hrr : Rw resE 3 w w.heap.size Ar rs) (hm : MildH l) (hrn : rs.length ≤ 1000000) (hrs : ∀ x ∈ rs, x.name.1.size < 4294967281) (hG : Glob w) (h3 : valErr (l.map Hst.h) ≠ 0 ∨ repErr rs ≠ 0 ∨ timeB now.1 = false) :
    Calls Tryd.prog 8 #[.slice A l.length c, .slice Ar rs.length cr, .int .u64 code.1, .int .i64 now.1] w (fun e w' => ∃ (A' : Option Addr) (c' : Nat) (l' : List Hst), e = .returned (.tuple #[.slice A' l'.length c', .int .i64 (addErr (l.map Hst.h) rs now.1)]) ∧ RwH w' w'.heap.size A' l' ∧ l'.length ≤ c' ∧ l'.map Hst.h = addL (l.map Hst.h) rs code now ∧ Below w.heap.size w w') := by
  have hln := hm.len
  have hva0 := fun W (hb : Below w.heap.size w W) => valid_any A c l W ((hr.below hb (Nat.le_refl _)).more hb.size) (by omega) hm.name (hG.keep hb)
  have hrv0 := fun W (hb : Below w.heap.size w W) => repv_any Ar cr rs W ((hrr.below hb (Nat.le_refl _)).more hb.size) (by omega) hrs (hG.keep hb)
  have htm0 := fun W => time_any now.1 W
  have hal : Hid (∀ W, Below w.heap.size w W → Calls Tryd.prog 14 #[.slice A l.length c] W fun e w' => ∃ A' c' l', e = .returned (.slice A' l'.length c') ∧ OwnH w' w.heap.size (.slice A' l'.length c') l' ∧ l'.map Hst.h = l.map Hst.h ∧ (∀ x ∈ l', x.lC = x.l.length) ∧ Below W.heap.size W w') := Lib.hid fun W hb => (all_any A c l W ((hr.below hb (Nat.le_refl _)).more hb.size) hm.len hm.samps).mono fun e w' ⟨A', c', l', h1, h2, h3, h4, h5⟩ => ⟨A', c', l', h1, ⟨h2.row.base hb.size, h2.labs⟩, h3, h4, h5⟩
  by_cases h1 : valErr (l.map Hst.h) ≠ 0
  · obtain ⟨E, hE0⟩ : ∃ E, valErr (l.map Hst.h) = E := ⟨_, rfl⟩
    have hE : Hid (addErr (l.map Hst.h) rs now.1 = E) := Lib.hid (by rw [err_1 h1, hE0])
    have hsame : Hid (addL (l.map Hst.h) rs code now = l.map Hst.h) := Lib.hid (add_same (by rw [err_1 h1]; exact h1))
    rw [hE0] at hva0
    have hva := Lib.hid hva0
    have hEb : (E != 0) = true := by rw [bne_iff_ne, ← hE0]; exact h1
    clear hva0 hrv0 htm0 h1 h3 hr hrr hm
    replace hE0 := Lib.hid hE0
    go_enter Tryd.func8, Tryd.ntmps8
    go_wp2_with (first
      | (go_at_call 14; go_must (refine (hal.out _ (by repeat (first | (with_reducible exact Below.refl _ _) | (with_reducible refine Below.drew ?_) | (with_reducible refine below_drewN ?_ _) | ((with_reducible refine Below.alloc ?_ ?_ _); rotate_left; focus ((try simp) <;> omega)) | ((with_reducible refine Below.setCell ?_ ?_ _); rotate_left; focus ((try simp) <;> omega)) | ((with_reducible refine Below.trans ?_ (Below.mono (by assumption) ?_)); rotate_left; focus ((try simp) <;> omega))))).mono ?_; rintro e w1 ⟨A1, c1, l1, rfl, ho1, hm1, hf1, hb1⟩; have hz1 := hb1.size; replace ho1 := Lib.hid ho1; replace hm1 := Lib.hid hm1; replace hf1 := Lib.hid hf1))
      | (go_at_call 15; go_must (refine (hva.out _ (by repeat (first | (with_reducible exact Below.refl _ _) | (with_reducible refine Below.drew ?_) | (with_reducible refine below_drewN ?_ _) | ((with_reducible refine Below.alloc ?_ ?_ _); rotate_left; focus ((try simp) <;> omega)) | ((with_reducible refine Below.setCell ?_ ?_ _); rotate_left; focus ((try simp) <;> omega)) | ((with_reducible refine Below.trans ?_ (Below.mono (by assumption) ?_)); rotate_left; focus ((try simp) <;> omega))))).mono ?_; rintro e w2 ⟨rfl, hb2⟩; have hz2 := hb2.size)))
    exact bodyPost_ret (v := .tuple #[.slice A1 l1.length c1, .int .i64 E]) (by simp [results, Tryd.results8, go_sem]) rfl (by
      obtain ⟨_, _, e1, h1, _⟩ := ho1.out.row.form
      simp only [Value.slice.injEq] at e1
      obtain ⟨-, -, rfl⟩ := e1
      exact ⟨A1, _, l1, by rw [hE.out], (ho1.out.all (show Below w1.heap.size w1 w2 from (by repeat (first | (with_reducible exact Below.refl _ _) | (with_reducible refine Below.drew ?_) | (with_reducible refine below_drewN ?_ _) | ((with_reducible refine Below.alloc ?_ ?_ _); rotate_left; focus ((try simp) <;> omega)) | ((with_reducible refine Below.setCell ?_ ?_ _); rotate_left; focus ((try simp) <;> omega)) | ((with_reducible refine Below.trans ?_ (Below.mono (by assumption) ?_)); rotate_left; focus ((try simp) <;> omega)))))).reads, h1, by rw [hm1.out, hsame.out], (by repeat (first | (with_reducible exact Below.refl _ _) | (with_reducible refine Below.drew ?_) | (with_reducible refine below_drewN ?_ _) | ((with_reducible refine Below.alloc ?_ ?_ _); rotate_left; focus ((try simp) <;> omega)) | ((with_reducible refine Below.setCell ?_ ?_ _); rotate_left; focus ((try simp) <;> omega)) | ((with_reducible refine Below.trans ?_ (Below.mono (by assumption) ?_)); rotate_left; focus ((try simp) <;> omega))))⟩)
  have h1 : valErr (l.map Hst.h) = 0 := Classical.not_not.1 h1
  rw [h1] at hva0
  have hva := Lib.hid hva0
  by_cases h2 : repErr rs ≠ 0
  · obtain ⟨E, hE0⟩ : ∃ E, repErr rs = E := ⟨_, rfl⟩
    have hE : Hid (addErr (l.map Hst.h) rs now.1 = E) := Lib.hid (by rw [err_2 h1 h2, hE0])
    have hsame : Hid (addL (l.map Hst.h) rs code now = l.map Hst.h) := Lib.hid (add_same (by rw [err_2 h1 h2]; exact h2))
    rw [hE0] at hrv0
    have hrv := Lib.hid hrv0
    have hEb : (E != 0) = true := by rw [bne_iff_ne, ← hE0]; exact h2
    clear hva0 hrv0 htm0 h1 h2 h3 hr hrr hm
    replace hE0 := Lib.hid hE0
    go_enter Tryd.func8, Tryd.ntmps8
    go_wp2_with (first
      | (go_at_call 14; go_must (refine (hal.out _ (by repeat (first | (with_reducible exact Below.refl _ _) | (with_reducible refine Below.drew ?_) | (with_reducible refine below_drewN ?_ _) | ((with_reducible refine Below.alloc ?_ ?_ _); rotate_left; focus ((try simp) <;> omega)) | ((with_reducible refine Below.setCell ?_ ?_ _); rotate_left; focus ((try simp) <;> omega)) | ((with_reducible refine Below.trans ?_ (Below.mono (by assumption) ?_)); rotate_left; focus ((try simp) <;> omega))))).mono ?_; rintro e w1 ⟨A1, c1, l1, rfl, ho1, hm1, hf1, hb1⟩; have hz1 := hb1.size; replace ho1 := Lib.hid ho1; replace hm1 := Lib.hid hm1; replace hf1 := Lib.hid hf1))
      | (go_at_call 15; go_must (refine (hva.out _ (by repeat (first | (with_reducible exact Below.refl _ _) | (with_reducible refine Below.drew ?_) | (with_reducible refine below_drewN ?_ _) | ((with_reducible refine Below.alloc ?_ ?_ _); rotate_left; focus ((try simp) <;> omega)) | ((with_reducible refine Below.setCell ?_ ?_ _); rotate_left; focus ((try simp) <;> omega)) | ((with_reducible refine Below.trans ?_ (Below.mono (by assumption) ?_)); rotate_left; focus ((try simp) <;> omega))))).mono ?_; rintro e w2 ⟨rfl, hb2⟩; have hz2 := hb2.size))
      | (go_at_call 16; go_must (refine (hrv.out _ (by repeat (first | (with_reducible exact Below.refl _ _) | (with_reducible refine Below.drew ?_) | (with_reducible refine below_drewN ?_ _) | ((with_reducible refine Below.alloc ?_ ?_ _); rotate_left; focus ((try simp) <;> omega)) | ((with_reducible refine Below.setCell ?_ ?_ _); rotate_left; focus ((try simp) <;> omega)) | ((with_reducible refine Below.trans ?_ (Below.mono (by assumption) ?_)); rotate_left; focus ((try simp) <;> omega))))).mono ?_; rintro e w3 ⟨rfl, hb3⟩; have hz3 := hb3.size)))
    exact bodyPost_ret (v := .tuple #[.slice A1 l1.length c1, .int .i64 E]) (by simp [results, Tryd.results8, go_sem]) rfl (by
      obtain ⟨_, _, e1, h1, _⟩ := ho1.out.row.form
      simp only [Value.slice.injEq] at e1
      obtain ⟨-, -, rfl⟩ := e1
      exact ⟨A1, _, l1, by rw [hE.out], (ho1.out.all (show Below w1.heap.size w1 w3 from (by repeat (first | (with_reducible exact Below.refl _ _) | (with_reducible refine Below.drew ?_) | (with_reducible refine below_drewN ?_ _) | ((with_reducible refine Below.alloc ?_ ?_ _); rotate_left; focus ((try simp) <;> omega)) | ((with_reducible refine Below.setCell ?_ ?_ _); rotate_left; focus ((try simp) <;> omega)) | ((with_reducible refine Below.trans ?_ (Below.mono (by assumption) ?_)); rotate_left; focus ((try simp) <;> omega)))))).reads, h1, by rw [hm1.out, hsame.out], (by repeat (first | (with_reducible exact Below.refl _ _) | (with_reducible refine Below.drew ?_) | (with_reducible refine below_drewN ?_ _) | ((with_reducible refine Below.alloc ?_ ?_ _); rotate_left; focus ((try simp) <;> omega)) | ((with_reducible refine Below.setCell ?_ ?_ _); rotate_left; focus ((try simp) <;> omega)) | ((with_reducible refine Below.trans ?_ (Below.mono (by assumption) ?_)); rotate_left; focus ((try simp) <;> omega))))⟩)
  have h2 : repErr rs = 0 := Classical.not_not.1 h2
  rw [h2] at hrv0
  have hrv := Lib.hid hrv0
  have h4 : timeB now.1 = false := (h3.resolve_left (fun h => h h1)).resolve_left (fun h => h h2)
  have hE : Hid (addErr (l.map Hst.h) rs now.1 = 2) := Lib.hid (err_3 h1 h2 h4)
  have hsame : Hid (addL (l.map Hst.h) rs code now = l.map Hst.h) := Lib.hid (add_same (by rw [err_3 h1 h2 h4]; decide))
  rw [h4] at htm0
  have htm := Lib.hid htm0
  clear hva0 hrv0 htm0 h1 h2 h3 h4 hr hrr hm
  go_enter Tryd.func8, Tryd.ntmps8
  go_wp2_with (first
    | (go_at_call 14; go_must (refine (hal.out _ (by repeat (first | (with_reducible exact Below.refl _ _) | (with_reducible refine Below.drew ?_) | (with_reducible refine below_drewN ?_ _) | ((with_reducible refine Below.alloc ?_ ?_ _); rotate_left; focus ((try simp) <;> omega)) | ((with_reducible refine Below.setCell ?_ ?_ _); rotate_left; focus ((try simp) <;> omega)) | ((with_reducible refine Below.trans ?_ (Below.mono (by assumption) ?_)); rotate_left; focus ((try simp) <;> omega))))).mono ?_; rintro e w1 ⟨A1, c1, l1, rfl, ho1, hm1, hf1, hb1⟩; have hz1 := hb1.size; replace ho1 := Lib.hid ho1; replace hm1 := Lib.hid hm1; replace hf1 := Lib.hid hf1))
    | (go_at_call 15; go_must (refine (hva.out _ (by repeat (first | (with_reducible exact Below.refl _ _) | (with_reducible refine Below.drew ?_) | (with_reducible refine below_drewN ?_ _) | ((with_reducible refine Below.alloc ?_ ?_ _); rotate_left; focus ((try simp) <;> omega)) | ((with_reducible refine Below.setCell ?_ ?_ _); rotate_left; focus ((try simp) <;> omega)) | ((with_reducible refine Below.trans ?_ (Below.mono (by assumption) ?_)); rotate_left; focus ((try simp) <;> omega))))).mono ?_; rintro e w2 ⟨rfl, hb2⟩; have hz2 := hb2.size))
    | (go_at_call 16; go_must (refine (hrv.out _ (by repeat (first | (with_reducible exact Below.refl _ _) | (with_reducible refine Below.drew ?_) | (with_reducible refine below_drewN ?_ _) | ((with_reducible refine Below.alloc ?_ ?_ _); rotate_left; focus ((try simp) <;> omega)) | ((with_reducible refine Below.setCell ?_ ?_ _); rotate_left; focus ((try simp) <;> omega)) | ((with_reducible refine Below.trans ?_ (Below.mono (by assumption) ?_)); rotate_left; focus ((try simp) <;> omega))))).mono ?_; rintro e w3 ⟨rfl, hb3⟩; have hz3 := hb3.size))
    | (go_at_call 17; go_must (refine (htm.out _).mono ?_; rintro e w4 ⟨rfl, rfl⟩)))
  exact bodyPost_ret (v := .tuple #[.slice A1 l1.length c1, .int .i64 2]) (by simp [results, Tryd.results8, go_sem]) rfl (by
    obtain ⟨_, _, e1, h1, _⟩ := ho1.out.row.form
    simp only [Value.slice.injEq] at e1
    obtain ⟨-, -, rfl⟩ := e1
    exact ⟨A1, _, l1, by rw [hE.out], (ho1.out.all (show Below w1.heap.size w1 w3 from (by repeat (first | (with_reducible exact Below.refl _ _) | (with_reducible refine Below.drew ?_) | (with_reducible refine below_drewN ?_ _) | ((with_reducible refine Below.alloc ?_ ?_ _); rotate_left; focus ((try simp) <;> omega)) | ((with_reducible refine Below.setCell ?_ ?_ _); rotate_left; focus ((try simp) <;> omega)) | ((with_reducible refine Below.trans ?_ (Below.mono (by assumption) ?_)); rotate_left; focus ((try simp) <;> omega)))))).reads, h1, by rw [hm1.out, hsame.out], (by repeat (first | (with_reducible exact Below.refl _ _) | (with_reducible refine Below.drew ?_) | (with_reducible refine below_drewN ?_ _) | ((with_reducible refine Below.alloc ?_ ?_ _); rotate_left; focus ((try simp) <;> omega)) | ((with_reducible refine Below.setCell ?_ ?_ _); rotate_left; focus ((try simp) <;> omega)) | ((with_reducible refine Below.trans ?_ (Below.mono (by assumption) ?_)); rotate_left; focus ((try simp) <;> omega))))⟩)
end Go.Proofs.YtddepmelnemniaaDoor
