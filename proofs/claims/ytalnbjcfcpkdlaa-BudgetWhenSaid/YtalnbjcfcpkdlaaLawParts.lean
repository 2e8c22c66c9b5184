/-
  BudgetParts: for every bucket and times, spending nothing in between does not change the level at a later time, and the first example holds. No condition.
-/
import Derived.Test.YtalnbjcfcpkdlaaWalks8
import Derived.Test.YtalnbjcfcpkdlaaLawKit





namespace Go.Proofs.Ytalnbjcfcpkdlaa.budgetParts
open Go.ChangeShapes Go.WideShapes Go.ChangeAt Go.RowKit Go.Joins
attribute [local go_sem ↓] eq_bucket

theorem own : ownKnob Try.prog.godebug = none := by kernel_rfl
theorem laidOut : laidOutB Try.prog = true := by kernel_rfl

/-- The level later is the same, whether or not the bucket was looked at in between. -/
theorem lvl_parts {r bu l a t u : Int} (h : Vld r bu l a) (ht : 0 ≤ t) (htu : t ≤ u) : lvl r bu (lvl r bu l a t) (max a t) u = lvl r bu l a u := by
  obtain ⟨h1, h2, h3, h4, h5, h6, h7, h8⟩ := h
  by_cases hta : t ≤ a
  · rw [show max a t = a by omega, show lvl r bu l a t = l by unfold lvl; rw [if_pos hta]]
  · rw [show max a t = t by omega, show lvl r bu l a t = min (1000 * bu) (l + r * (t - a)) by unfold lvl; rw [if_neg hta]]
    unfold lvl
    rw [if_neg (show ¬ u ≤ a by omega)]
    by_cases hut : u ≤ t
    · obtain rfl : u = t := by omega
      rw [if_pos hut]
    · rw [if_neg hut]
      have e : r * (u - a) = r * (t - a) + r * (u - t) := by rw [← Int.mul_add]; congr 1; omega
      have p := Int.mul_nonneg h1 (show 0 ≤ u - t by omega)
      rw [e]; omega

theorem parts {r bu l a t u : Int} (h : spE r bu l a t 0 = 0) (htu : t ≤ u) : Lvl r bu (spL r bu l a t 0) (spA r bu l a t 0) u = Lvl r bu l a u := by
  rcases bv : vld r bu l a with _ | _
  · rw [(sp_1 bv).1] at h; omega
  · rcases bt : inB t 0 1125899906842624 with _ | _
    · rw [(sp_2 bv (.inl bt)).1] at h; omega
    · have b0 : inB 0 0 1000000 = true := by decide
      have hv := vld_iff.1 bv
      have ht := inB_iff.1 bt
      obtain ⟨q1, q2, q3⟩ := lvl_bd hv ht
      by_cases hl : lvl r bu l a t < 1000 * 0
      · omega
      · obtain ⟨_, eL, eA⟩ := sp_0 bv bt b0 hl
        rw [eL, eA, show lvl r bu l a t - 1000 * 0 = lvl r bu l a t by omega]
        have hv2 : Vld r bu (lvl r bu l a t) (max a t) := by
          obtain ⟨h1, h2, h3, h4, h5, h6, h7, h8⟩ := hv
          exact ⟨h1, h2, h3, h4, q1, q3, by omega, by omega⟩
        unfold Lvl
        rw [lvl_parts hv ht.1 htu]
        simp only [hv, hv2, true_and]

set_option maxHeartbeats 2000000 in
theorem walk (r bu l a t u : Int) (w : World) :
    Calls Try.prog 6 #[.agg #[.int .i64 r, .int .i64 bu, .int .i64 l, .int .i64 a], .int .i64 t, .int .i64 u] w fun e w' => e = .returned (.bool true) ∧ Below w.heap.size w w' := by
  by_cases h0 : spE r bu l a t 0 = 0
  · have g0 : (spE r bu l a t 0 != 0) = false := by simpa using h0
    by_cases htu : u < t
    · have H := Lib.hid h0
      clear h0
      go_enter Try.func6, Try.ntmps6
      go_wp2_with fail
      refine (spend_any r bu l a t 0 _).mono ?_
      rintro e w1 ⟨rfl, hb1⟩
      unfold spV
      have hz1 := hb1.size; (try simp at hz1); obtain ⟨hc1, hf1⟩ := blk_at hb1 w.heap.size (by (try simp) <;> omega)
      have hlt1 : w.heap.size < w1.heap.size := by omega
      go_wp2_with fail
      refine (awake_any _).mono ?_
      rintro e w2 ⟨rfl, hb2⟩
      have hz2 := hb2.size; try simp at hz2
      go_wp2_with fail
      go_ret
      exact ⟨rfl, (by repeat (first | (with_reducible exact Below.refl _ _) | (with_reducible refine Below.drew ?_) | ((with_reducible refine Below.alloc ?_ ?_ _); rotate_left; focus ((try simp) <;> omega)) | ((with_reducible refine Below.setCell ?_ ?_ _); rotate_left; focus ((try simp) <;> omega)) | ((with_reducible refine Below.trans ?_ (Below.mono (by assumption) ?_)); rotate_left; focus ((try simp) <;> omega))))⟩
    · have hp := parts h0 (show t ≤ u by omega)
      have H := Lib.hid h0
      clear h0
      have HP := Lib.hid hp
      clear hp
      go_enter Try.func6, Try.ntmps6
      go_wp2_with fail
      refine (spend_any r bu l a t 0 _).mono ?_
      rintro e w1 ⟨rfl, hb1⟩
      unfold spV
      have hz1 := hb1.size; (try simp at hz1); obtain ⟨hc1, hf1⟩ := blk_at hb1 w.heap.size (by (try simp) <;> omega)
      have hlt1 : w.heap.size < w1.heap.size := by omega
      go_wp2_with fail
      go_region_held3 (fun w' => (w'.cell? ⟨w.heap.size, 0, none⟩ = some (.int .i64 r) ∧ w'.cell? ⟨w.heap.size, 1, none⟩ = some (.int .i64 bu) ∧ w'.cell? ⟨w.heap.size, 2, none⟩ = some (.int .i64 l) ∧ w'.cell? ⟨w.heap.size, 3, none⟩ = some (.int .i64 a)) ∧ (w'.cell? ⟨w1.heap.size, 0, none⟩ = some (.int .i64 r) ∧ w'.cell? ⟨w1.heap.size, 1, none⟩ = some (.int .i64 bu) ∧ w'.cell? ⟨w1.heap.size, 2, none⟩ = some (.int .i64 (spL r bu l a t 0)) ∧ w'.cell? ⟨w1.heap.size, 3, none⟩ = some (.int .i64 (spA r bu l a t 0)))) (go_keep) (first
        | (go_at_call 12; refine (Level_any _ _ _ _ _ _).mono ?_; rintro e w3 ⟨rfl, hb3⟩; (try rw [HP.out]); have hz3 := hb3.size; (try simp at hz3); obtain ⟨hc3, hf3⟩ := blk_at hb3 w.heap.size (by (try simp) <;> omega); obtain ⟨hd3, he3⟩ := blk_at hb3 w1.heap.size (by (try simp) <;> omega))
        | (go_at_call 11; refine (awake_any _).mono ?_; rintro e w5 ⟨rfl, hb5⟩; have hz5 := hb5.size; (try simp at hz5); obtain ⟨hc5, hf5⟩ := blk_at hb5 w.heap.size (by (try simp) <;> omega); obtain ⟨hd5, he5⟩ := blk_at hb5 w1.heap.size (by (try simp) <;> omega)))
      all_goals go_wp2
      all_goals go_ret
      all_goals exact ⟨rfl, (by repeat (first | (with_reducible exact Below.refl _ _) | (with_reducible refine Below.drew ?_) | ((with_reducible refine Below.alloc ?_ ?_ _); rotate_left; focus ((try simp) <;> omega)) | ((with_reducible refine Below.setCell ?_ ?_ _); rotate_left; focus ((try simp) <;> omega)) | ((with_reducible refine Below.trans ?_ (Below.mono (by assumption) ?_)); rotate_left; focus ((try simp) <;> omega))))⟩
  · have g0 : (spE r bu l a t 0 != 0) = true := by simpa using h0
    go_enter Try.func6, Try.ntmps6
    go_wp2_with fail
    refine (spend_any r bu l a t 0 _).mono ?_
    rintro e w1 ⟨rfl, hb1⟩
    unfold spV
    have hz1 := hb1.size; (try simp at hz1); obtain ⟨hc1, hf1⟩ := blk_at hb1 w.heap.size (by (try simp) <;> omega)
    have hlt1 : w.heap.size < w1.heap.size := by omega
    go_wp2_with fail
    refine (awake_any _).mono ?_
    rintro e w2 ⟨rfl, hb2⟩
    have hz2 := hb2.size; try simp at hz2
    go_wp2_with fail
    go_ret
    exact ⟨rfl, (by repeat (first | (with_reducible exact Below.refl _ _) | (with_reducible refine Below.drew ?_) | ((with_reducible refine Below.alloc ?_ ?_ _); rotate_left; focus ((try simp) <;> omega)) | ((with_reducible refine Below.setCell ?_ ?_ _); rotate_left; focus ((try simp) <;> omega)) | ((with_reducible refine Below.trans ?_ (Below.mono (by assumption) ?_)); rotate_left; focus ((try simp) <;> omega))))⟩

set_option maxRecDepth 100000 in
theorem lifted (os : Os) (started : os.Started) (H : Type) (enc : TypeId × Value → H) :
    ReturnsInHanded {} Try.checked os 6 .any (Rows.budgetPartsSpec.pre6 enc Try.prog Try.f6 Rows.budgetPartsRow.domain false) (Rows.budgetPartsSpec.post enc Try.prog Try.f6 false true false false) := by
  refine returnsInHanded_of_change (C := Try.checked) own started (by kernel_rfl) Try.func6
    (ChangeSpec.witness6 (enc := enc) (C := Try.checked) false ⟨#[], #[.agg #[.int .i64 0, .int .i64 0, .int .i64 0, .int .i64 0], .int .i64 0, .int .i64 0], []⟩ 8 (by kernel_rfl) (by kernel_rfl) (by kernel_rfl) (by kernel_rfl)) ?_
  intro W base args ds gs before hval0 hW hcnd _
  have hval : ∀ (j : Nat) t v, Try.f6.params[j]? = some t → args[j]? = some v → Value.okWide Try.prog W .any base t v := hval0
  have hW' := hW
  obtain ⟨p, q, hA0, hV, rfl, hfz, hnd⟩ := hW
  have hA : DataW.TrodAll enc Try.prog W 0 (fun _ => true) true Try.f6.params.toList args.toList ds p := hA0
  have hA1 := hA
  rw [Try.params6] at hA hval
  obtain ⟨rfl, rfl⟩ := trodVars_none hV
  simp only [List.append_nil] at hW'
  have hcall : Calls Try.prog 6 args W fun e w' => e = .returned (.bool true) ∧ Below W.heap.size W w' := by
    clear hA0 hval0 hV hcnd hfz hnd
    obtain ⟨v0, v1, v2, d0, d1, d2, p0, p1, p2, rfl, rfl, rfl, h0, h1, h2⟩ := trodAll_three hA
    obtain ⟨c0, c1, c2, c3, y0, y1, y2, y3, m, rfl, _, _, k0, k1, k2, k3⟩ := open_agg4 Try.underlying23 (by kernel_rfl) (show Try.prog.cellsOf 23 = 4 by kernel_rfl) (hval 0 23 v0 rfl rfl) h0
    obtain ⟨r, e0, _, wr⟩ := DataW.trod_int Try.underlying3 k0
    obtain rfl : c0 = .int .i64 r := by simpa using e0
    obtain ⟨bu, e1, _, wbu⟩ := DataW.trod_int Try.underlying3 k1
    obtain rfl : c1 = .int .i64 bu := by simpa using e1
    obtain ⟨l, e2, _, wl⟩ := DataW.trod_int Try.underlying3 k2
    obtain rfl : c2 = .int .i64 l := by simpa using e2
    obtain ⟨a, e3, _, wa⟩ := DataW.trod_int Try.underlying3 k3
    obtain rfl : c3 = .int .i64 a := by simpa using e3
    obtain ⟨a1, rfl, rfl, rfl, w1⟩ := open_int Try.underlying3 (hval 1 3 v1 rfl rfl) h1
    obtain ⟨a2, rfl, rfl, rfl, w2⟩ := open_int Try.underlying3 (hval 2 3 v2 rfl rfl) h2
    exact walk r bu l a a1 a2 W
  have hds : ds.length = 3 := (trodAll_length hA).1
  refine hcall.mono fun e W' ⟨he, hb⟩ => ?_
  subst he
  refine ⟨_, rfl, law_post hW' rfl hA1 (by kernel_rfl) laidOut Try.underlying4 (by kernel_rfl) ?_ hb⟩
  match ds, hds with
  | [_, _, _], _ => rfl

theorem proved : Rows.BudgetPartsSaid :=
  OpenClaim.holds_of_wide 6 Try.f6 rfl rfl rfl rfl rfl rfl rfl ⟨rfl, rfl, rfl, rfl, rfl⟩ rfl rfl rfl rfl rfl (by kernel_rfl) Try.func6 (by kernel_rfl)
    (of_decide_eq_true (by kernel_rfl)) (by unfold Func.isWrapper; first | (rw [if_pos (by decide +kernel)]; kernel_rfl) | (rw [if_neg (by decide +kernel)]; exact ⟨rfl, rfl⟩))
    (fun os started H enc _ => lifted os started H enc)
#print axioms proved
end Go.Proofs.Ytalnbjcfcpkdlaa.budgetParts
