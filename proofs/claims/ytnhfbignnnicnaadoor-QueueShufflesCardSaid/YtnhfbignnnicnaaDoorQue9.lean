/-
  The walk of the queue: a job pushed, by the program.
-/
import Derived.Test.YtnhfbignnnicnaaDoorQue8



namespace Go.Proofs.YtnhfbignnnicnaaDoor
open Go.RowKit

section
variable {P : Program} {α : Type} {enc : α → List Value} {k : Nat}
theorem step_append_rw {ops : Array Oper} {o : Oper} {a : Act} {w : World} {K : Act → World → Prop} {Q : Exit → Act → World → Prop} {E : Prop} (hgd : o.guard = none) (s x : Operand) (t : TypeId)
    (ho : o.op = .call { callee := .builtin .append, args := #[s, x], argTypes := #[t, t] })
    (hk : ∀ x : α, (enc x).length = k) (h1 : ∀ x : α, ∀ u ∈ enc x, u.oneCell' = true) (base : Nat) (e : TypeId) (i : TypeInfo) (z : Value) (bytes : Nat) (ht : P.underlying t = some (.slice e)) (hi : P.info? e = some i) (hz : i.zero = some z)
    (hsize : i.size = k) (hby : i.bytes = bytes) (hzs : z.cells.size = k) (hsz : 0 < k)
    (v : Value) (xs : List α) (hs : a.eval s = v) (hown : Own enc k e w base v xs)
    (B : Nat) (A : Option Addr) (m c : Nat) (ys : List α) (hm : ys.length = m) (hx : a.eval x = .slice A m c) (hr : Rw enc k w B A ys)
    (h63 : xs.length + m ≤ maxLen) (hbytes : (xs.length + m) * bytes ≤ 140737488355328) (hbase : base ≤ w.heap.size)
    (h : ∀ v' w', Own enc k e w' base v' (xs ++ ys) → w.grownBy w' v.ownBlock → (v'.ownBlock = v.ownBlock ∨ v'.ownBlock = some w.heap.size) → K (a.put o.dst v') w') :
    if Region.wanted o (yielded ops a.tmps) = true then Oper.wp P o a w K Q else E := by
  have hw : Region.wanted o (yielded ops a.tmps) = true := by simp [Region.wanted, hgd]
  rw [if_pos hw]
  exact wp_append_rw w s x t ho hk h1 base e i z bytes ht hi hz hsize hby hzs hsz v xs hs hown B A m c ys hm hx hr h63 hbytes hbase h
end

theorem OwnL.base {w : World} {H H' : Nat} {v : Value} {l : List Pend} (h : OwnL w H v l) (hH : H' ≤ H) : OwnL w H' v l := ⟨h.row.base hH, fun x hx => ⟨(h.labs x hx).1.base hH, (h.labs x hx).2⟩⟩
theorem isEmpty_noStr (s : Str) : s.1.toList.isEmpty = noStr s := rfl
set_option maxRecDepth 100000 in
set_option maxHeartbeats 8000000 in
theorem push_any (A : Option Addr) (c : Nat) (l : List Pend) (p : Pend) (w : World) (hr : RwL w w.heap.size A l) (hp : LabPend w w.heap.size p) (hn : l.length ≤ 5000) (h40 : sumL l) (hp40 : p.labs.length ≤ 40) :
    Calls Tryd.prog 14 #[.slice A l.length c, .agg #[.string p.run.1, .string p.job.1, .string p.proj.1, .int .i64 p.prio.1, .int .i64 p.since.1, .int .i64 p.cost.1, .slice p.labsA p.labs.length p.labsC, .int .i64 p.trust.1, .string p.group.1, .int .i64 p.policy.1]] w fun e w' => ∃ A' l' c', e = .returned (.tuple #[.slice A' l'.length c', .int .i64 (pushE l p)]) ∧ RwL w' w'.heap.size A' l' ∧ l'.map core = (pushL l p).map core ∧ Below w.heap.size w w' := by
  obtain ⟨inf, hi0, iz0, iz1, iz2⟩ := info_parts pend_info
  have hfd : Hid (∀ W, Below w.heap.size w W → Calls Tryd.prog 30 #[.slice A l.length c, .agg #[.string p.run.1, .string p.job.1]] W fun e w' => e = .returned (.int .i64 (findI p.run p.job l)) ∧ Below W.heap.size W w') := Lib.hid fun W hb => at_any A c l p.run p.job W ((hr.row.below hb (Nat.le_refl _)).more hb.size) (by omega)
  have hrd : Hid (∀ W, Below w.heap.size w W → RwL W W.heap.size A l) := Lib.hid fun W hb => (hr.below hb (Nat.le_refl _)).more hb.size
  have hpd : Hid (∀ W, Below w.heap.size w W → LabPend W W.heap.size p) := Lib.hid fun W hb => (hp.below hb (Nat.le_refl _)).more hb.size
  have hal : Hid (∀ W, Below w.heap.size w W → Calls Tryd.prog 31 #[.slice A l.length c] W fun e w' => ∃ v l', e = .returned v ∧ OwnL w' W.heap.size v l' ∧ l'.map core = l.map core ∧ Below W.heap.size W w') := Lib.hid fun W hb => all_any A c l W ((hr.below hb (Nat.le_refl _)).more hb.size) hn h40
  have hcp : Hid (∀ W, Below w.heap.size w W → Calls Tryd.prog 32 #[.agg #[.string p.run.1, .string p.job.1, .string p.proj.1, .int .i64 p.prio.1, .int .i64 p.since.1, .int .i64 p.cost.1, .slice p.labsA p.labs.length p.labsC, .int .i64 p.trust.1, .string p.group.1, .int .i64 p.policy.1]] W fun e w' => ∃ A' C', e = .returned (.agg (pendE (atLabs p A' C')).toArray) ∧ Own sE 1 9 w' W.heap.size (.slice A' p.labs.length C') p.labs ∧ Below W.heap.size W w') := Lib.hid fun W hb => copied_any p W ((hp.below hb (Nat.le_refl _)).more hb.size) (by omega)
  clear hr hp
  rcases e1 : p.run.1.toList.isEmpty with _ | _
  rotate_left
  · have h1 : errP p = 1 := by simp [errP, noStr, *]
    have he := pushE_err (l := l) (p := p) (by rw [h1]; decide)
    have hl := pushL_no (l := l) (p := p) (by rw [he, h1]; decide)
    rw [he, hl, h1]
    clear h1
    replace he := Lib.hid he
    replace hl := Lib.hid hl
    go_enter Tryd.func14, Tryd.ntmps14
    go_wp2_with (first
      | (go_at_call 29; refine (within_any _ _ _ (by omega) _).mono ?_; rintro e w' ⟨rfl, rfl⟩)
      | (go_at_call 30; go_must (refine (hfd.out _ (by repeat (first | (with_reducible exact Below.refl _ _) | (with_reducible refine Below.drew ?_) | (with_reducible refine below_drewN ?_ _) | ((with_reducible refine Below.alloc ?_ ?_ _); rotate_left; focus ((try simp) <;> omega)) | ((with_reducible refine Below.setCell ?_ ?_ _); rotate_left; focus ((try simp) <;> omega)) | ((with_reducible refine Below.trans ?_ (Below.mono (by assumption) ?_)); rotate_left; focus ((try simp) <;> omega))))).mono ?_; rintro e w2 ⟨rfl, hb2⟩; have hz2 := hb2.size; (try simp at hz2); obtain ⟨hc2, hf2⟩ := blk_at hb2 w.heap.size (by (try simp) <;> omega))))
    exact bodyPost_ret (v := .tuple #[.slice A l.length c, .int .i64 (1)]) (by simp [results, Tryd.results14, go_sem]) rfl ⟨A, l, c, rfl, hrd.out _ (by repeat (first | (with_reducible exact Below.refl _ _) | (with_reducible refine Below.drew ?_) | (with_reducible refine below_drewN ?_ _) | ((with_reducible refine Below.alloc ?_ ?_ _); rotate_left; focus ((try simp) <;> omega)) | ((with_reducible refine Below.setCell ?_ ?_ _); rotate_left; focus ((try simp) <;> omega)) | ((with_reducible refine Below.trans ?_ (Below.mono (by assumption) ?_)); rotate_left; focus ((try simp) <;> omega)))), rfl, (by repeat (first | (with_reducible exact Below.refl _ _) | (with_reducible refine Below.drew ?_) | (with_reducible refine below_drewN ?_ _) | ((with_reducible refine Below.alloc ?_ ?_ _); rotate_left; focus ((try simp) <;> omega)) | ((with_reducible refine Below.setCell ?_ ?_ _); rotate_left; focus ((try simp) <;> omega)) | ((with_reducible refine Below.trans ?_ (Below.mono (by assumption) ?_)); rotate_left; focus ((try simp) <;> omega))))⟩
  rcases e2 : p.job.1.toList.isEmpty with _ | _
  rotate_left
  · have h1 : errP p = 1 := by simp [errP, noStr, *]
    have he := pushE_err (l := l) (p := p) (by rw [h1]; decide)
    have hl := pushL_no (l := l) (p := p) (by rw [he, h1]; decide)
    rw [he, hl, h1]
    clear h1
    replace he := Lib.hid he
    replace hl := Lib.hid hl
    go_enter Tryd.func14, Tryd.ntmps14
    go_wp2_with (first
      | (go_at_call 29; refine (within_any _ _ _ (by omega) _).mono ?_; rintro e w' ⟨rfl, rfl⟩)
      | (go_at_call 30; go_must (refine (hfd.out _ (by repeat (first | (with_reducible exact Below.refl _ _) | (with_reducible refine Below.drew ?_) | (with_reducible refine below_drewN ?_ _) | ((with_reducible refine Below.alloc ?_ ?_ _); rotate_left; focus ((try simp) <;> omega)) | ((with_reducible refine Below.setCell ?_ ?_ _); rotate_left; focus ((try simp) <;> omega)) | ((with_reducible refine Below.trans ?_ (Below.mono (by assumption) ?_)); rotate_left; focus ((try simp) <;> omega))))).mono ?_; rintro e w2 ⟨rfl, hb2⟩; have hz2 := hb2.size; (try simp at hz2); obtain ⟨hc2, hf2⟩ := blk_at hb2 w.heap.size (by (try simp) <;> omega))))
    exact bodyPost_ret (v := .tuple #[.slice A l.length c, .int .i64 (1)]) (by simp [results, Tryd.results14, go_sem]) rfl ⟨A, l, c, rfl, hrd.out _ (by repeat (first | (with_reducible exact Below.refl _ _) | (with_reducible refine Below.drew ?_) | (with_reducible refine below_drewN ?_ _) | ((with_reducible refine Below.alloc ?_ ?_ _); rotate_left; focus ((try simp) <;> omega)) | ((with_reducible refine Below.setCell ?_ ?_ _); rotate_left; focus ((try simp) <;> omega)) | ((with_reducible refine Below.trans ?_ (Below.mono (by assumption) ?_)); rotate_left; focus ((try simp) <;> omega)))), rfl, (by repeat (first | (with_reducible exact Below.refl _ _) | (with_reducible refine Below.drew ?_) | (with_reducible refine below_drewN ?_ _) | ((with_reducible refine Below.alloc ?_ ?_ _); rotate_left; focus ((try simp) <;> omega)) | ((with_reducible refine Below.setCell ?_ ?_ _); rotate_left; focus ((try simp) <;> omega)) | ((with_reducible refine Below.trans ?_ (Below.mono (by assumption) ?_)); rotate_left; focus ((try simp) <;> omega))))⟩
  rcases e3 : p.proj.1.toList.isEmpty with _ | _
  rotate_left
  · have h1 : errP p = 1 := by simp [errP, noStr, *]
    have he := pushE_err (l := l) (p := p) (by rw [h1]; decide)
    have hl := pushL_no (l := l) (p := p) (by rw [he, h1]; decide)
    rw [he, hl, h1]
    clear h1
    replace he := Lib.hid he
    replace hl := Lib.hid hl
    go_enter Tryd.func14, Tryd.ntmps14
    go_wp2_with (first
      | (go_at_call 29; refine (within_any _ _ _ (by omega) _).mono ?_; rintro e w' ⟨rfl, rfl⟩)
      | (go_at_call 30; go_must (refine (hfd.out _ (by repeat (first | (with_reducible exact Below.refl _ _) | (with_reducible refine Below.drew ?_) | (with_reducible refine below_drewN ?_ _) | ((with_reducible refine Below.alloc ?_ ?_ _); rotate_left; focus ((try simp) <;> omega)) | ((with_reducible refine Below.setCell ?_ ?_ _); rotate_left; focus ((try simp) <;> omega)) | ((with_reducible refine Below.trans ?_ (Below.mono (by assumption) ?_)); rotate_left; focus ((try simp) <;> omega))))).mono ?_; rintro e w2 ⟨rfl, hb2⟩; have hz2 := hb2.size; (try simp at hz2); obtain ⟨hc2, hf2⟩ := blk_at hb2 w.heap.size (by (try simp) <;> omega))))
    exact bodyPost_ret (v := .tuple #[.slice A l.length c, .int .i64 (1)]) (by simp [results, Tryd.results14, go_sem]) rfl ⟨A, l, c, rfl, hrd.out _ (by repeat (first | (with_reducible exact Below.refl _ _) | (with_reducible refine Below.drew ?_) | (with_reducible refine below_drewN ?_ _) | ((with_reducible refine Below.alloc ?_ ?_ _); rotate_left; focus ((try simp) <;> omega)) | ((with_reducible refine Below.setCell ?_ ?_ _); rotate_left; focus ((try simp) <;> omega)) | ((with_reducible refine Below.trans ?_ (Below.mono (by assumption) ?_)); rotate_left; focus ((try simp) <;> omega)))), rfl, (by repeat (first | (with_reducible exact Below.refl _ _) | (with_reducible refine Below.drew ?_) | (with_reducible refine below_drewN ?_ _) | ((with_reducible refine Below.alloc ?_ ?_ _); rotate_left; focus ((try simp) <;> omega)) | ((with_reducible refine Below.setCell ?_ ?_ _); rotate_left; focus ((try simp) <;> omega)) | ((with_reducible refine Below.trans ?_ (Below.mono (by assumption) ?_)); rotate_left; focus ((try simp) <;> omega))))⟩
  rcases i1 : inB p.prio.1 0 9 with _ | _
  · have h1 : errP p = 2 := by simp [errP, noStr, *]
    have he := pushE_err (l := l) (p := p) (by rw [h1]; decide)
    have hl := pushL_no (l := l) (p := p) (by rw [he, h1]; decide)
    rw [he, hl, h1]
    clear h1
    replace he := Lib.hid he
    replace hl := Lib.hid hl
    go_enter Tryd.func14, Tryd.ntmps14
    go_wp2_with (first
      | (go_at_call 29; refine (within_any _ _ _ (by omega) _).mono ?_; rintro e w' ⟨rfl, rfl⟩)
      | (go_at_call 30; go_must (refine (hfd.out _ (by repeat (first | (with_reducible exact Below.refl _ _) | (with_reducible refine Below.drew ?_) | (with_reducible refine below_drewN ?_ _) | ((with_reducible refine Below.alloc ?_ ?_ _); rotate_left; focus ((try simp) <;> omega)) | ((with_reducible refine Below.setCell ?_ ?_ _); rotate_left; focus ((try simp) <;> omega)) | ((with_reducible refine Below.trans ?_ (Below.mono (by assumption) ?_)); rotate_left; focus ((try simp) <;> omega))))).mono ?_; rintro e w2 ⟨rfl, hb2⟩; have hz2 := hb2.size; (try simp at hz2); obtain ⟨hc2, hf2⟩ := blk_at hb2 w.heap.size (by (try simp) <;> omega))))
    exact bodyPost_ret (v := .tuple #[.slice A l.length c, .int .i64 (2)]) (by simp [results, Tryd.results14, go_sem]) rfl ⟨A, l, c, rfl, hrd.out _ (by repeat (first | (with_reducible exact Below.refl _ _) | (with_reducible refine Below.drew ?_) | (with_reducible refine below_drewN ?_ _) | ((with_reducible refine Below.alloc ?_ ?_ _); rotate_left; focus ((try simp) <;> omega)) | ((with_reducible refine Below.setCell ?_ ?_ _); rotate_left; focus ((try simp) <;> omega)) | ((with_reducible refine Below.trans ?_ (Below.mono (by assumption) ?_)); rotate_left; focus ((try simp) <;> omega)))), rfl, (by repeat (first | (with_reducible exact Below.refl _ _) | (with_reducible refine Below.drew ?_) | (with_reducible refine below_drewN ?_ _) | ((with_reducible refine Below.alloc ?_ ?_ _); rotate_left; focus ((try simp) <;> omega)) | ((with_reducible refine Below.setCell ?_ ?_ _); rotate_left; focus ((try simp) <;> omega)) | ((with_reducible refine Below.trans ?_ (Below.mono (by assumption) ?_)); rotate_left; focus ((try simp) <;> omega))))⟩
  rcases i2 : inB p.since.1 0 1125899906842624 with _ | _
  · have h1 : errP p = 2 := by simp [errP, noStr, *]
    have he := pushE_err (l := l) (p := p) (by rw [h1]; decide)
    have hl := pushL_no (l := l) (p := p) (by rw [he, h1]; decide)
    rw [he, hl, h1]
    clear h1
    replace he := Lib.hid he
    replace hl := Lib.hid hl
    go_enter Tryd.func14, Tryd.ntmps14
    go_wp2_with (first
      | (go_at_call 29; refine (within_any _ _ _ (by omega) _).mono ?_; rintro e w' ⟨rfl, rfl⟩)
      | (go_at_call 30; go_must (refine (hfd.out _ (by repeat (first | (with_reducible exact Below.refl _ _) | (with_reducible refine Below.drew ?_) | (with_reducible refine below_drewN ?_ _) | ((with_reducible refine Below.alloc ?_ ?_ _); rotate_left; focus ((try simp) <;> omega)) | ((with_reducible refine Below.setCell ?_ ?_ _); rotate_left; focus ((try simp) <;> omega)) | ((with_reducible refine Below.trans ?_ (Below.mono (by assumption) ?_)); rotate_left; focus ((try simp) <;> omega))))).mono ?_; rintro e w2 ⟨rfl, hb2⟩; have hz2 := hb2.size; (try simp at hz2); obtain ⟨hc2, hf2⟩ := blk_at hb2 w.heap.size (by (try simp) <;> omega))))
    exact bodyPost_ret (v := .tuple #[.slice A l.length c, .int .i64 (2)]) (by simp [results, Tryd.results14, go_sem]) rfl ⟨A, l, c, rfl, hrd.out _ (by repeat (first | (with_reducible exact Below.refl _ _) | (with_reducible refine Below.drew ?_) | (with_reducible refine below_drewN ?_ _) | ((with_reducible refine Below.alloc ?_ ?_ _); rotate_left; focus ((try simp) <;> omega)) | ((with_reducible refine Below.setCell ?_ ?_ _); rotate_left; focus ((try simp) <;> omega)) | ((with_reducible refine Below.trans ?_ (Below.mono (by assumption) ?_)); rotate_left; focus ((try simp) <;> omega)))), rfl, (by repeat (first | (with_reducible exact Below.refl _ _) | (with_reducible refine Below.drew ?_) | (with_reducible refine below_drewN ?_ _) | ((with_reducible refine Below.alloc ?_ ?_ _); rotate_left; focus ((try simp) <;> omega)) | ((with_reducible refine Below.setCell ?_ ?_ _); rotate_left; focus ((try simp) <;> omega)) | ((with_reducible refine Below.trans ?_ (Below.mono (by assumption) ?_)); rotate_left; focus ((try simp) <;> omega))))⟩
  rcases i3 : inB p.cost.1 1 1000000 with _ | _
  · have h1 : errP p = 2 := by simp [errP, noStr, *]
    have he := pushE_err (l := l) (p := p) (by rw [h1]; decide)
    have hl := pushL_no (l := l) (p := p) (by rw [he, h1]; decide)
    rw [he, hl, h1]
    clear h1
    replace he := Lib.hid he
    replace hl := Lib.hid hl
    go_enter Tryd.func14, Tryd.ntmps14
    go_wp2_with (first
      | (go_at_call 29; refine (within_any _ _ _ (by omega) _).mono ?_; rintro e w' ⟨rfl, rfl⟩)
      | (go_at_call 30; go_must (refine (hfd.out _ (by repeat (first | (with_reducible exact Below.refl _ _) | (with_reducible refine Below.drew ?_) | (with_reducible refine below_drewN ?_ _) | ((with_reducible refine Below.alloc ?_ ?_ _); rotate_left; focus ((try simp) <;> omega)) | ((with_reducible refine Below.setCell ?_ ?_ _); rotate_left; focus ((try simp) <;> omega)) | ((with_reducible refine Below.trans ?_ (Below.mono (by assumption) ?_)); rotate_left; focus ((try simp) <;> omega))))).mono ?_; rintro e w2 ⟨rfl, hb2⟩; have hz2 := hb2.size; (try simp at hz2); obtain ⟨hc2, hf2⟩ := blk_at hb2 w.heap.size (by (try simp) <;> omega))))
    exact bodyPost_ret (v := .tuple #[.slice A l.length c, .int .i64 (2)]) (by simp [results, Tryd.results14, go_sem]) rfl ⟨A, l, c, rfl, hrd.out _ (by repeat (first | (with_reducible exact Below.refl _ _) | (with_reducible refine Below.drew ?_) | (with_reducible refine below_drewN ?_ _) | ((with_reducible refine Below.alloc ?_ ?_ _); rotate_left; focus ((try simp) <;> omega)) | ((with_reducible refine Below.setCell ?_ ?_ _); rotate_left; focus ((try simp) <;> omega)) | ((with_reducible refine Below.trans ?_ (Below.mono (by assumption) ?_)); rotate_left; focus ((try simp) <;> omega)))), rfl, (by repeat (first | (with_reducible exact Below.refl _ _) | (with_reducible refine Below.drew ?_) | (with_reducible refine below_drewN ?_ _) | ((with_reducible refine Below.alloc ?_ ?_ _); rotate_left; focus ((try simp) <;> omega)) | ((with_reducible refine Below.setCell ?_ ?_ _); rotate_left; focus ((try simp) <;> omega)) | ((with_reducible refine Below.trans ?_ (Below.mono (by assumption) ?_)); rotate_left; focus ((try simp) <;> omega))))⟩
  rcases i4 : inB p.trust.1 0 2 with _ | _
  · have h1 : errP p = 2 := by simp [errP, noStr, *]
    have he := pushE_err (l := l) (p := p) (by rw [h1]; decide)
    have hl := pushL_no (l := l) (p := p) (by rw [he, h1]; decide)
    rw [he, hl, h1]
    clear h1
    replace he := Lib.hid he
    replace hl := Lib.hid hl
    go_enter Tryd.func14, Tryd.ntmps14
    go_wp2_with (first
      | (go_at_call 29; refine (within_any _ _ _ (by omega) _).mono ?_; rintro e w' ⟨rfl, rfl⟩)
      | (go_at_call 30; go_must (refine (hfd.out _ (by repeat (first | (with_reducible exact Below.refl _ _) | (with_reducible refine Below.drew ?_) | (with_reducible refine below_drewN ?_ _) | ((with_reducible refine Below.alloc ?_ ?_ _); rotate_left; focus ((try simp) <;> omega)) | ((with_reducible refine Below.setCell ?_ ?_ _); rotate_left; focus ((try simp) <;> omega)) | ((with_reducible refine Below.trans ?_ (Below.mono (by assumption) ?_)); rotate_left; focus ((try simp) <;> omega))))).mono ?_; rintro e w2 ⟨rfl, hb2⟩; have hz2 := hb2.size; (try simp at hz2); obtain ⟨hc2, hf2⟩ := blk_at hb2 w.heap.size (by (try simp) <;> omega))))
    exact bodyPost_ret (v := .tuple #[.slice A l.length c, .int .i64 (2)]) (by simp [results, Tryd.results14, go_sem]) rfl ⟨A, l, c, rfl, hrd.out _ (by repeat (first | (with_reducible exact Below.refl _ _) | (with_reducible refine Below.drew ?_) | (with_reducible refine below_drewN ?_ _) | ((with_reducible refine Below.alloc ?_ ?_ _); rotate_left; focus ((try simp) <;> omega)) | ((with_reducible refine Below.setCell ?_ ?_ _); rotate_left; focus ((try simp) <;> omega)) | ((with_reducible refine Below.trans ?_ (Below.mono (by assumption) ?_)); rotate_left; focus ((try simp) <;> omega)))), rfl, (by repeat (first | (with_reducible exact Below.refl _ _) | (with_reducible refine Below.drew ?_) | (with_reducible refine below_drewN ?_ _) | ((with_reducible refine Below.alloc ?_ ?_ _); rotate_left; focus ((try simp) <;> omega)) | ((with_reducible refine Below.setCell ?_ ?_ _); rotate_left; focus ((try simp) <;> omega)) | ((with_reducible refine Below.trans ?_ (Below.mono (by assumption) ?_)); rotate_left; focus ((try simp) <;> omega))))⟩
  rcases i5 : inB p.policy.1 0 2 with _ | _
  · have h1 : errP p = 2 := by simp [errP, noStr, *]
    have he := pushE_err (l := l) (p := p) (by rw [h1]; decide)
    have hl := pushL_no (l := l) (p := p) (by rw [he, h1]; decide)
    rw [he, hl, h1]
    clear h1
    replace he := Lib.hid he
    replace hl := Lib.hid hl
    go_enter Tryd.func14, Tryd.ntmps14
    go_wp2_with (first
      | (go_at_call 29; refine (within_any _ _ _ (by omega) _).mono ?_; rintro e w' ⟨rfl, rfl⟩)
      | (go_at_call 30; go_must (refine (hfd.out _ (by repeat (first | (with_reducible exact Below.refl _ _) | (with_reducible refine Below.drew ?_) | (with_reducible refine below_drewN ?_ _) | ((with_reducible refine Below.alloc ?_ ?_ _); rotate_left; focus ((try simp) <;> omega)) | ((with_reducible refine Below.setCell ?_ ?_ _); rotate_left; focus ((try simp) <;> omega)) | ((with_reducible refine Below.trans ?_ (Below.mono (by assumption) ?_)); rotate_left; focus ((try simp) <;> omega))))).mono ?_; rintro e w2 ⟨rfl, hb2⟩; have hz2 := hb2.size; (try simp at hz2); obtain ⟨hc2, hf2⟩ := blk_at hb2 w.heap.size (by (try simp) <;> omega))))
    exact bodyPost_ret (v := .tuple #[.slice A l.length c, .int .i64 (2)]) (by simp [results, Tryd.results14, go_sem]) rfl ⟨A, l, c, rfl, hrd.out _ (by repeat (first | (with_reducible exact Below.refl _ _) | (with_reducible refine Below.drew ?_) | (with_reducible refine below_drewN ?_ _) | ((with_reducible refine Below.alloc ?_ ?_ _); rotate_left; focus ((try simp) <;> omega)) | ((with_reducible refine Below.setCell ?_ ?_ _); rotate_left; focus ((try simp) <;> omega)) | ((with_reducible refine Below.trans ?_ (Below.mono (by assumption) ?_)); rotate_left; focus ((try simp) <;> omega)))), rfl, (by repeat (first | (with_reducible exact Below.refl _ _) | (with_reducible refine Below.drew ?_) | (with_reducible refine below_drewN ?_ _) | ((with_reducible refine Below.alloc ?_ ?_ _); rotate_left; focus ((try simp) <;> omega)) | ((with_reducible refine Below.setCell ?_ ?_ _); rotate_left; focus ((try simp) <;> omega)) | ((with_reducible refine Below.trans ?_ (Below.mono (by assumption) ?_)); rotate_left; focus ((try simp) <;> omega))))⟩
  have h1 : errP p = 0 := by simp [errP, noStr, *]
  by_cases h2 : 0 ≤ findI p.run p.job l
  · have he := pushE_has h1 h2
    have hl := pushL_no (l := l) (p := p) (by rw [he]; decide)
    rw [he, hl]
    clear h1
    replace he := Lib.hid he
    replace hl := Lib.hid hl
    go_enter Tryd.func14, Tryd.ntmps14
    go_wp2_with (first
      | (go_at_call 29; refine (within_any _ _ _ (by omega) _).mono ?_; rintro e w' ⟨rfl, rfl⟩)
      | (go_at_call 30; go_must (refine (hfd.out _ (by repeat (first | (with_reducible exact Below.refl _ _) | (with_reducible refine Below.drew ?_) | (with_reducible refine below_drewN ?_ _) | ((with_reducible refine Below.alloc ?_ ?_ _); rotate_left; focus ((try simp) <;> omega)) | ((with_reducible refine Below.setCell ?_ ?_ _); rotate_left; focus ((try simp) <;> omega)) | ((with_reducible refine Below.trans ?_ (Below.mono (by assumption) ?_)); rotate_left; focus ((try simp) <;> omega))))).mono ?_; rintro e w2 ⟨rfl, hb2⟩; have hz2 := hb2.size; (try simp at hz2); obtain ⟨hc2, hf2⟩ := blk_at hb2 w.heap.size (by (try simp) <;> omega))))
    exact bodyPost_ret (v := .tuple #[.slice A l.length c, .int .i64 (7)]) (by simp [results, Tryd.results14, go_sem]) rfl ⟨A, l, c, rfl, hrd.out _ (by repeat (first | (with_reducible exact Below.refl _ _) | (with_reducible refine Below.drew ?_) | (with_reducible refine below_drewN ?_ _) | ((with_reducible refine Below.alloc ?_ ?_ _); rotate_left; focus ((try simp) <;> omega)) | ((with_reducible refine Below.setCell ?_ ?_ _); rotate_left; focus ((try simp) <;> omega)) | ((with_reducible refine Below.trans ?_ (Below.mono (by assumption) ?_)); rotate_left; focus ((try simp) <;> omega)))), rfl, (by repeat (first | (with_reducible exact Below.refl _ _) | (with_reducible refine Below.drew ?_) | (with_reducible refine below_drewN ?_ _) | ((with_reducible refine Below.alloc ?_ ?_ _); rotate_left; focus ((try simp) <;> omega)) | ((with_reducible refine Below.setCell ?_ ?_ _); rotate_left; focus ((try simp) <;> omega)) | ((with_reducible refine Below.trans ?_ (Below.mono (by assumption) ?_)); rotate_left; focus ((try simp) <;> omega))))⟩
  by_cases h3 : 4096 ≤ l.length
  · have he := pushE_full h1 h2 h3
    have hl := pushL_no (l := l) (p := p) (by rw [he]; decide)
    rw [he, hl]
    clear h1
    have h3z : (4096 : Int) ≤ (l.length : Int) := by omega
    replace he := Lib.hid he
    replace hl := Lib.hid hl
    go_enter Tryd.func14, Tryd.ntmps14
    go_wp2_with (first
      | (go_at_call 29; refine (within_any _ _ _ (by omega) _).mono ?_; rintro e w' ⟨rfl, rfl⟩)
      | (go_at_call 30; go_must (refine (hfd.out _ (by repeat (first | (with_reducible exact Below.refl _ _) | (with_reducible refine Below.drew ?_) | (with_reducible refine below_drewN ?_ _) | ((with_reducible refine Below.alloc ?_ ?_ _); rotate_left; focus ((try simp) <;> omega)) | ((with_reducible refine Below.setCell ?_ ?_ _); rotate_left; focus ((try simp) <;> omega)) | ((with_reducible refine Below.trans ?_ (Below.mono (by assumption) ?_)); rotate_left; focus ((try simp) <;> omega))))).mono ?_; rintro e w2 ⟨rfl, hb2⟩; have hz2 := hb2.size; (try simp at hz2); obtain ⟨hc2, hf2⟩ := blk_at hb2 w.heap.size (by (try simp) <;> omega))))
    exact bodyPost_ret (v := .tuple #[.slice A l.length c, .int .i64 (21)]) (by simp [results, Tryd.results14, go_sem]) rfl ⟨A, l, c, rfl, hrd.out _ (by repeat (first | (with_reducible exact Below.refl _ _) | (with_reducible refine Below.drew ?_) | (with_reducible refine below_drewN ?_ _) | ((with_reducible refine Below.alloc ?_ ?_ _); rotate_left; focus ((try simp) <;> omega)) | ((with_reducible refine Below.setCell ?_ ?_ _); rotate_left; focus ((try simp) <;> omega)) | ((with_reducible refine Below.trans ?_ (Below.mono (by assumption) ?_)); rotate_left; focus ((try simp) <;> omega)))), rfl, (by repeat (first | (with_reducible exact Below.refl _ _) | (with_reducible refine Below.drew ?_) | (with_reducible refine below_drewN ?_ _) | ((with_reducible refine Below.alloc ?_ ?_ _); rotate_left; focus ((try simp) <;> omega)) | ((with_reducible refine Below.setCell ?_ ?_ _); rotate_left; focus ((try simp) <;> omega)) | ((with_reducible refine Below.trans ?_ (Below.mono (by assumption) ?_)); rotate_left; focus ((try simp) <;> omega))))⟩
  have he := pushE_ok h1 h2 h3
  have hl := pushL_ok he
  rw [he, hl]
  clear h1
  have h3z : ¬ (4096 : Int) ≤ (l.length : Int) := by omega
  replace he := Lib.hid he
  replace hl := Lib.hid hl
  go_enter Tryd.func14, Tryd.ntmps14
  go_wp2_with (first
    | (go_at_call 29; refine (within_any _ _ _ (by omega) _).mono ?_; rintro e w' ⟨rfl, rfl⟩)
    | (go_at_call 30; go_must (refine (hfd.out _ (by repeat (first | (with_reducible exact Below.refl _ _) | (with_reducible refine Below.drew ?_) | (with_reducible refine below_drewN ?_ _) | ((with_reducible refine Below.alloc ?_ ?_ _); rotate_left; focus ((try simp) <;> omega)) | ((with_reducible refine Below.setCell ?_ ?_ _); rotate_left; focus ((try simp) <;> omega)) | ((with_reducible refine Below.trans ?_ (Below.mono (by assumption) ?_)); rotate_left; focus ((try simp) <;> omega))))).mono ?_; rintro e w2 ⟨rfl, hb2⟩; have hz2 := hb2.size; (try simp at hz2); obtain ⟨hc2, hf2⟩ := blk_at hb2 w.heap.size (by (try simp) <;> omega))))
  go_region_held3 (fun w' => w'.cell? ⟨w.heap.size, 0, none⟩ = some (.string p.run.1) ∧ w'.cell? ⟨w.heap.size, 1, none⟩ = some (.string p.job.1) ∧ w'.cell? ⟨w.heap.size, 2, none⟩ = some (.string p.proj.1) ∧ w'.cell? ⟨w.heap.size, 3, none⟩ = some (.int .i64 p.prio.1) ∧ w'.cell? ⟨w.heap.size, 4, none⟩ = some (.int .i64 p.since.1) ∧ w'.cell? ⟨w.heap.size, 5, none⟩ = some (.int .i64 p.cost.1) ∧ w'.cell? ⟨w.heap.size, 6, none⟩ = some (.slice p.labsA p.labs.length p.labsC) ∧ w'.cell? ⟨w.heap.size, 7, none⟩ = some (.int .i64 p.trust.1) ∧ w'.cell? ⟨w.heap.size, 8, none⟩ = some (.string p.group.1) ∧ w'.cell? ⟨w.heap.size, 9, none⟩ = some (.int .i64 p.policy.1)) (go_keep)
    (first
      | (go_at_call 31; go_must (refine (hal.out _ (by repeat (first | (with_reducible exact Below.refl _ _) | (with_reducible refine Below.drew ?_) | (with_reducible refine below_drewN ?_ _) | ((with_reducible refine Below.alloc ?_ ?_ _); rotate_left; focus ((try simp) <;> omega)) | ((with_reducible refine Below.setCell ?_ ?_ _); rotate_left; focus ((try simp) <;> omega)) | ((with_reducible refine Below.trans ?_ (Below.mono (by assumption) ?_)); rotate_left; focus ((try simp) <;> omega))))).mono ?_; rintro e w5 ⟨v5, l5, rfl, hown5, hco5, hb5⟩; have hz5 := hb5.size; (try simp at hz5); obtain ⟨hc5, hf5⟩ := blk_at hb5 w.heap.size (by (try simp) <;> omega); have hl5 : l5.length = l.length := (by simpa using congrArg List.length hco5); have hlt5 : ∀ g, v5.ownBlock = some g → w.heap.size < g ∧ g < w5.heap.size := fun g hg => by (have h := hown5.row.lt g hg; first | (exact ⟨by omega, h.2⟩) | (simp at h; exact ⟨by omega, h.2⟩))))
      | (go_at_call 32; go_must (refine (hcp.out _ (by repeat (first | (with_reducible exact Below.refl _ _) | (with_reducible refine Below.drew ?_) | (with_reducible refine below_drewN ?_ _) | ((with_reducible refine Below.alloc ?_ ?_ _); rotate_left; focus ((try simp) <;> omega)) | ((with_reducible refine Below.setCell ?_ ?_ _); rotate_left; focus ((try simp) <;> omega)) | ((with_reducible refine Below.trans ?_ (Below.mono (by assumption) ?_)); rotate_left; focus ((try simp) <;> omega))))).mono ?_; rintro e w6 ⟨A6, C6, rfl, ho6, hb6⟩; have hz6 := hb6.size; (try simp at hz6); obtain ⟨hc6, hf6⟩ := blk_at hb6 w.heap.size (by (try simp) <;> omega); have hlt6 := ho6.lt; (try simp at hlt6); simp only [pendE, atLabs]))
      | (refine step_append_rw rfl (.tmp 66) (.tmp 69) _ rfl pendE_len pendE_one w.heap.size 27 inf _ 128 Tryd.underlying22 hi0 iz0 iz1 iz2 rfl (by omega) v5 l5 rfl ((((hown5.row.base (by (try simp) <;> omega)).all hb6)).alloc _) _ (some ⟨w6.heap.size, 0, none⟩) 1 1 [atLabs p A6 C6] rfl rfl ((Own.lit (enc := pendE) (l := [atLabs p A6 C6]) (base := 0) (pendE (atLabs p A6 C6)).toArray (Nat.zero_le _) (by simp [maxLen]) (by simp) pendE_len).reads pendE_len) (by simp only [maxLen]; omega) (by omega) (by simp; omega) ?_
         intro v7 w7 hown7 hg7 hat7
         have hz7 := hg7.size
         simp at hz7
         have hc7 : ∀ o, w7.cell? ⟨w.heap.size, o, none⟩ = w6.cell? ⟨w.heap.size, o, none⟩ := fun o => (World.cell?_of_block (hg7.block w.heap.size (by simp; omega) (fun e => by have := (hlt5 _ e.symm).1; omega))).trans (World.cell?_alloc_lt _ _ _ (by show w.heap.size < _; omega))))
  all_goals go_wp2_with fail
  all_goals
    have hb6a : Below w.heap.size w (w6.alloc (.cells (pendE (atLabs p A6 C6)).toArray 27)) := (by repeat (first | (with_reducible exact Below.refl _ _) | (with_reducible refine Below.drew ?_) | (with_reducible refine below_drewN ?_ _) | ((with_reducible refine Below.alloc ?_ ?_ _); rotate_left; focus ((try simp) <;> omega)) | ((with_reducible refine Below.setCell ?_ ?_ _); rotate_left; focus ((try simp) <;> omega)) | ((with_reducible refine Below.trans ?_ (Below.mono (by assumption) ?_)); rotate_left; focus ((try simp) <;> omega))))
    have hb7 : Below w.heap.size w w7 := hb6a.grown hg7 (by simp; omega) (fun g hg => by have := (hlt5 g hg).1; omega)
    have hput := (((hown5.base (H' := w.heap.size) (by simp; omega)).all hb6).all ((Below.refl _ _).alloc (Nat.le_refl _) (.cells (pendE (atLabs p A6 C6)).toArray 27))).put ⟨(ho6.base (b' := w.heap.size) (by omega)).alloc _, fun g hg e => by
      have h1 := (hlt6 g hg).1
      have h2 := (hlt5 g e).2
      omega⟩ hown7 hg7 hat7
    obtain ⟨A7, c7, rfl, _, _, _⟩ := hown7.form
    exact bodyPost_ret (v := .tuple #[.slice A7 (l5 ++ [atLabs p A6 C6]).length c7, .int .i64 0]) (by simp [results, Tryd.results14, go_sem]) rfl ⟨A7, l5 ++ [atLabs p A6 C6], c7, rfl, hput.reads, by rw [List.map_append, List.map_append, hco5]; rfl, hb7⟩
end Go.Proofs.YtnhfbignnnicnaaDoor
