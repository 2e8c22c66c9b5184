/-
  The walks of fairness: how shares are compared, by the program and by the reference.
-/
import Derived.Test.YtopicpghhpkgbaaDoorFa2
import Derived.Test.YtopicpghhpkgbaaDoorNuma3




namespace Go.Proofs.YtopicpghhpkgbaaDoor
open Go.RowKit

/-- Whether a share's ratio is smaller. -/
def lesS (x y : Share) : Bool := Num.ltB x.served.1 y.weight.1 y.served.1 x.weight.1
/-- How shares are compared: by their ratios, then by their projects. -/
def befS (x y : Share) : Int := if lesS x y = true then -1 else if lesS y x = true then 1 else cmpS x.proj y.proj
theorem Less_bel (x y : Share) (W : World) : Calls Tryd.prog 49 #[.int .i64 x.served.1, .int .i64 y.weight.1, .int .i64 y.served.1, .int .i64 x.weight.1] W fun e w' => e = .returned (.bool (lesS x y)) ∧ Bel W.heap.size W w' :=
  Num.Less_any _ _ _ _ x.served.2.1 x.served.2.2 y.weight.2.1 y.weight.2.2 y.served.2.1 y.served.2.2 x.weight.2.1 x.weight.2.2 W
theorem Less_rbel (x y : Share) (W : World) : Calls Tryd.prog 40 #[.int .i64 x.served.1, .int .i64 y.weight.1, .int .i64 y.served.1, .int .i64 x.weight.1] W fun e w' => e = .returned (.bool (lesS x y)) ∧ Below W.heap.size W w' :=
  Num.rLess_any _ _ _ _ x.served.2.1 x.served.2.2 y.weight.2.1 y.weight.2.2 y.served.2.1 y.served.2.2 x.weight.2.1 x.weight.2.2 W

set_option maxRecDepth 100000 in
set_option maxHeartbeats 2000000 in
theorem before_any (x y : Share) (w : World) :
    Calls Tryd.prog 28 #[.agg #[.string x.proj.1, .int .i64 x.weight.1, .int .i64 x.served.1], .agg #[.string y.proj.1, .int .i64 y.weight.1, .int .i64 y.served.1]] w fun e w' => e = .returned (.int .i64 (befS x y)) ∧ Bel w.heap.size w w' := by
  have h1 := fun W => Less_bel x y W
  have h2 := fun W => Less_bel y x W
  have h3 : ∀ W, Calls Tryd.prog 43 #[.string x.proj.1, .string y.proj.1] W fun e w' => e = .returned (.int .i64 (cmpS x.proj y.proj)) ∧ Bel W.heap.size W w' := fun W => compare_any _ _ x.proj.2 y.proj.2 W
  have hbf : Hid (befS x y = if lesS x y = true then -1 else if lesS y x = true then 1 else cmpS x.proj y.proj) := Lib.hid rfl
  generalize lesS x y = a at h1 hbf
  generalize lesS y x = b at h2 hbf
  replace h1 := Lib.hid h1
  replace h2 := Lib.hid h2
  replace h3 := Lib.hid h3
  rcases a with _ | _ <;> rcases b with _ | _
  all_goals
    go_enter Tryd.func28, Tryd.ntmps28
    go_wp2_with (first
      | (go_at_call 49; with_reducible refine (h1.out _).mono ?_; rintro e w1 ⟨rfl, hb1⟩; have hz1 := hb1.toBelow.size; (try simp at hz1); obtain ⟨hc1, hf1⟩ := blk_at hb1.toBelow w.heap.size (by (try simp) <;> omega); obtain ⟨hd1, he1⟩ := blk_at hb1.toBelow (w.heap.size + 1) (by (try simp) <;> omega))
      | (go_at_call 49; with_reducible refine (h2.out _).mono ?_; rintro e w2 ⟨rfl, hb2⟩; have hz2 := hb2.toBelow.size; (try simp at hz2); obtain ⟨hc2, hf2⟩ := blk_at hb2.toBelow w.heap.size (by (try simp) <;> omega); obtain ⟨hd2, he2⟩ := blk_at hb2.toBelow (w.heap.size + 1) (by (try simp) <;> omega))
      | (go_at_call 43; go_must (refine (h3.out _).mono ?_; rintro e w3 ⟨rfl, hb3⟩)))
    go_ret
    exact ⟨ret_int (by rw [hbf.out]; rfl), (by repeat (first | (with_reducible exact Bel.refl _ _) | (with_reducible refine Bel.drew ?_) | (with_reducible refine Bel.drewN ?_ _) | ((with_reducible refine Bel.alloc ?_ ?_ _); rotate_left; focus ((try simp) <;> omega)) | ((with_reducible refine Bel.setCell ?_ ?_ _); rotate_left; focus ((try simp) <;> omega)) | ((with_reducible refine Bel.trans ?_ (Bel.mono (by assumption) ?_)); rotate_left; focus ((try simp) <;> omega))))⟩

set_option maxHeartbeats 1000000 in
theorem rless_any (x y : Share) (w : World) :
    Calls Tryd.prog 21 #[.agg #[.string x.proj.1, .int .i64 x.weight.1, .int .i64 x.served.1], .agg #[.string y.proj.1, .int .i64 y.weight.1, .int .i64 y.served.1]] w fun e w' => e = .returned (.bool (lesS x y)) ∧ Below w.heap.size w w' := by
  have h1 := fun W => Less_rbel x y W
  generalize lesS x y = a at h1 ⊢
  replace h1 := Lib.hid h1
  go_enter Tryd.func21, Tryd.ntmps21
  go_wp2_with (go_at_call 40; go_must (refine (h1.out _).mono ?_; rintro e w1 ⟨rfl, hb1⟩))
  go_ret
  exact ⟨rfl, (by repeat (first | (with_reducible exact Below.refl _ _) | (with_reducible refine Below.drew ?_) | (with_reducible refine below_drewN ?_ _) | ((with_reducible refine Below.alloc ?_ ?_ _); rotate_left; focus ((try simp) <;> omega)) | ((with_reducible refine Below.setCell ?_ ?_ _); rotate_left; focus ((try simp) <;> omega)) | ((with_reducible refine Below.trans ?_ (Below.mono (by assumption) ?_)); rotate_left; focus ((try simp) <;> omega))))⟩
theorem befS_neg (x y : Share) : decide (befS x y < 0) = (lesS x y || !lesS y x && decide (cmpS x.proj y.proj < 0)) := by
  unfold befS
  rcases lesS x y with _ | _ <;> rcases lesS y x with _ | _ <;> simp

set_option maxRecDepth 100000 in
set_option maxHeartbeats 4000000 in
theorem rbefore_any (x y : Share) (w : World) :
    Calls Tryd.prog 37 #[.agg #[.string x.proj.1, .int .i64 x.weight.1, .int .i64 x.served.1], .agg #[.string y.proj.1, .int .i64 y.weight.1, .int .i64 y.served.1]] w fun e w' => e = .returned (.bool (decide (befS x y < 0))) ∧ Below w.heap.size w w' := by
  have h1 := fun W => rless_any x y W
  have h2 := fun W => rless_any y x W
  have h3 : ∀ W, Calls Tryd.prog 39 #[.string x.proj.1, .string y.proj.1] W fun e w' => e = .returned (.int .i64 (cmpS x.proj y.proj)) ∧ Below W.heap.size W w' := fun W => (rcompare_any _ _ x.proj.2 y.proj.2 W).mono fun _ _ h => ⟨by rw [h.1]; rfl, by obtain ⟨n, e⟩ := h.2; rw [e]; exact below_drewN (Below.refl _ _) _⟩
  have hbf := befS_neg x y
  replace hbf := Lib.hid hbf
  generalize lesS x y = a at h1 hbf
  generalize lesS y x = b at h2 hbf
  generalize cmpS x.proj y.proj = C at h3 hbf
  replace h1 := Lib.hid h1
  replace h2 := Lib.hid h2
  replace h3 := Lib.hid h3
  rcases a with _ | _ <;> rcases b with _ | _
  all_goals
    go_enter Tryd.func37, Tryd.ntmps37
    go_wp2_with (first
      | (go_at_call 21; with_reducible refine (h1.out _).mono ?_; rintro e w1 ⟨rfl, hb1⟩; have hz1 := hb1.size; (try simp at hz1); obtain ⟨hc1, hf1⟩ := blk_at hb1 w.heap.size (by (try simp) <;> omega); obtain ⟨hd1, he1⟩ := blk_at hb1 (w.heap.size + 1) (by (try simp) <;> omega))
      | (go_at_call 21; with_reducible refine (h2.out _).mono ?_; rintro e w2 ⟨rfl, hb2⟩; have hz2 := hb2.size; (try simp at hz2); obtain ⟨hc2, hf2⟩ := blk_at hb2 w.heap.size (by (try simp) <;> omega); obtain ⟨hd2, he2⟩ := blk_at hb2 (w.heap.size + 1) (by (try simp) <;> omega))
      | (go_at_call 39; go_must (refine (h3.out _).mono ?_; rintro e w3 ⟨rfl, hb3⟩)))
    go_ret
    exact ⟨ret_bool (by rw [hbf.out]; simp), (by repeat (first | (with_reducible exact Below.refl _ _) | (with_reducible refine Below.drew ?_) | (with_reducible refine below_drewN ?_ _) | ((with_reducible refine Below.alloc ?_ ?_ _); rotate_left; focus ((try simp) <;> omega)) | ((with_reducible refine Below.setCell ?_ ?_ _); rotate_left; focus ((try simp) <;> omega)) | ((with_reducible refine Below.trans ?_ (Below.mono (by assumption) ?_)); rotate_left; focus ((try simp) <;> omega))))⟩
end Go.Proofs.YtopicpghhpkgbaaDoor
