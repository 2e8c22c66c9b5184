/-
  The walks of shards: whether tests can be divided, by the program and by the reference.
-/
import Derived.Test.YtdjepnilmgembaaGreatDoorShw3
import Derived.Lib.QuietBelow
import Derived.Test.YtdjepnilmgembaaGreatDoorPar1


namespace Go.Proofs.YtdjepnilmgembaaGreatDoor
open Go.RowKit Go.Maps

theorem pathB_of {s : Str} : pathB s = true ↔ pathE s = 0 := by unfold pathB; rw [decide_eq_true_eq]
theorem pathB_no {s : Str} : pathB s = false ↔ ¬ pathE s = 0 := by unfold pathB; rw [decide_eq_false_iff_not]
theorem pathB_eq (s : Str) : (pathE s == 0) = pathB s := by
  unfold pathB
  rw [Bool.eq_iff_iff, beq_iff_eq, decide_eq_true_eq]
theorem rispath_any (s : Str) (w : World) (hs : s.1.size < 4294967281) : Calls Tryz.prog 57 #[.string s.1] w fun e w' => e = .returned (.bool (pathB s)) ∧ Below w.heap.size w w' := by
  have hc := Lib.hid fun W => rparts_any s W hs
  have hb := pathB_eq s
  generalize pathB s = B at *
  generalize pathE s = E at *
  go_enter Tryz.func57, Tryz.ntmps57
  go_wp2_with (go_at_call 84; go_must (refine (hc.out _).mono ?_; rintro e w1 ⟨A1, c1, rfl, _, _, hb1⟩; have hz1 := hb1.size))
  go_ret
  exact ⟨rfl, (by repeat (first | (with_reducible exact Below.refl _ _) | (with_reducible refine Below.drew ?_) | (with_reducible refine below_drewN ?_ _) | ((with_reducible refine Below.alloc ?_ ?_ _); rotate_left; focus ((try simp) <;> omega)) | ((with_reducible refine Below.setCell ?_ ?_ _); rotate_left; focus ((try simp) <;> omega)) | ((with_reducible refine Below.trans ?_ (Below.mono (by assumption) ?_)); rotate_left; focus ((try simp) <;> omega))))⟩

theorem nms_at {l : List Str} {k : Nat} {s : Str} (h : l[k]? = some s) : nmsErr (l.take k) (l.drop k) = if nmErr (l.take k) s = 0 then nmsErr (l.take (k + 1)) (l.drop (k + 1)) else nmErr (l.take k) s := by
  obtain ⟨hk, rfl⟩ := List.getElem?_eq_some_iff.1 h
  rw [List.drop_eq_getElem_cons hk, nmsErr, List.take_add_one, h]
  rfl
theorem nm_1 {seen : List Str} {s : Str} (h : pathB s = false) : nmErr seen s = 1 := by unfold nmErr; rw [if_pos h]
theorem nm_7 {seen : List Str} {s : Str} (h : pathB s = true) (h2 : hasS seen s = true) : nmErr seen s = 7 := by unfold nmErr; rw [if_neg (by rw [h]; decide), if_pos h2]
theorem nm_0 {seen : List Str} {s : Str} (h : pathB s = true) (h2 : hasS seen s = false) : nmErr seen s = 0 := by unfold nmErr; rw [if_neg (by rw [h]; decide), if_neg (by rw [h2]; decide)]
theorem spl_2 {l : List Str} {n : Int} (h : n < 1 ∨ 64 < n) : splErr l n = 2 := by unfold splErr; rw [if_pos h]
theorem spl_15 {l : List Str} {n : Int} (h : ¬ (n < 1 ∨ 64 < n)) (h2 : 4096 < l.length) : splErr l n = 15 := by unfold splErr; rw [if_neg h, if_pos h2]
theorem spl_in {l : List Str} {n : Int} (h : ¬ (n < 1 ∨ 64 < n)) (h2 : ¬ 4096 < l.length) : splErr l n = nmsErr [] l := by unfold splErr; rw [if_neg h, if_neg h2]
set_option maxRecDepth 100000 in
set_option maxHeartbeats 8000000 in
theorem scheck_any (A : Option Addr) (c : Nat) (l : List Str) (n : Int) (w : World) (hr : Rw sE 1 w w.heap.size A l) (hn : l.length ≤ 9223372036854775807) (hs : ∀ x ∈ l, x.1.size < 4294967281) (hG : Glob w) :
    Calls Tryz.prog 29 #[.slice A l.length c, .int .i64 n] w fun e w' => e = .returned (.int .i64 (splErr l n)) ∧ Below w.heap.size w w' := by
  obtain ⟨R, hR⟩ : ∃ R, splErr l n = R := ⟨_, rfl⟩
  rw [hR]
  by_cases h1 : n < 1
  · have hf : Hid (R = 2) := Lib.hid (by rw [← hR, spl_2 (.inl h1)])
    replace hR := Lib.hid hR
    clear hr
    go_enter Tryz.func29, Tryz.ntmps29
    go_wp2_with fail
    go_ret
    exact ⟨by rw [hf.out]; rfl, (by repeat (first | (with_reducible exact Below.refl _ _) | (with_reducible refine Below.drew ?_) | (with_reducible refine below_drewN ?_ _) | ((with_reducible refine Below.alloc ?_ ?_ _); rotate_left; focus ((try simp) <;> omega)) | ((with_reducible refine Below.setCell ?_ ?_ _); rotate_left; focus ((try simp) <;> omega)) | ((with_reducible refine Below.trans ?_ (Below.mono (by assumption) ?_)); rotate_left; focus ((try simp) <;> omega))))⟩
  by_cases h2 : 64 < n
  · have hf : Hid (R = 2) := Lib.hid (by rw [← hR, spl_2 (.inr h2)])
    replace hR := Lib.hid hR
    clear hr
    go_enter Tryz.func29, Tryz.ntmps29
    go_wp2_with fail
    go_ret
    exact ⟨by rw [hf.out]; rfl, (by repeat (first | (with_reducible exact Below.refl _ _) | (with_reducible refine Below.drew ?_) | (with_reducible refine below_drewN ?_ _) | ((with_reducible refine Below.alloc ?_ ?_ _); rotate_left; focus ((try simp) <;> omega)) | ((with_reducible refine Below.setCell ?_ ?_ _); rotate_left; focus ((try simp) <;> omega)) | ((with_reducible refine Below.trans ?_ (Below.mono (by assumption) ?_)); rotate_left; focus ((try simp) <;> omega))))⟩
  by_cases hl : 4096 < l.length
  · have hf : Hid (R = 15) := Lib.hid (by rw [← hR, spl_15 (by omega) hl])
    have hlz : (4096 : Int) < (l.length : Int) := by omega
    replace hR := Lib.hid hR
    clear hr
    go_enter Tryz.func29, Tryz.ntmps29
    go_wp2_with fail
    go_ret
    exact ⟨by rw [hf.out]; rfl, (by repeat (first | (with_reducible exact Below.refl _ _) | (with_reducible refine Below.drew ?_) | (with_reducible refine below_drewN ?_ _) | ((with_reducible refine Below.alloc ?_ ?_ _); rotate_left; focus ((try simp) <;> omega)) | ((with_reducible refine Below.setCell ?_ ?_ _); rotate_left; focus ((try simp) <;> omega)) | ((with_reducible refine Below.trans ?_ (Below.mono (by assumption) ?_)); rotate_left; focus ((try simp) <;> omega))))⟩
  have hR0 : Hid (nmsErr [] l = R) := Lib.hid (by rw [← hR, spl_in (by omega) hl])
  have hlz : ¬ (4096 : Int) < (l.length : Int) := by omega
  replace hR := Lib.hid hR
  replace hr := Lib.hid hr
  replace hs := Lib.hid hs
  replace hG := Lib.hid hG
  go_enter Tryz.func29, Tryz.ntmps29
  have hmm := @run_makeMap Tryz.prog
  go_wp2_with fail
  clear hmm
  go_loopw [24] (fun vi wr => ∃ k : Nat, k ≤ l.length ∧ vi = .int .i64 (k : Int) ∧ nmsErr (l.take k) (l.drop k) = R ∧ MapB Tryz.prog 9 4 wr w.heap.size k (SeenR (l.take k)) ∧ Below w.heap.size w wr) (fun vi _ => l.length - (intOf vi).toNat)
  case atStart => exact ⟨0, Nat.zero_le _, rfl, hR0.out, (MapB.made w Tryz.prog 9 4).congr fun x => ⟨fun ⟨s, h, _⟩ => absurd h (by simp), fun h => h.elim⟩, (Below.refl _ _).alloc (Nat.le_refl _) _⟩
  case round =>
    obtain ⟨k, hk, rfl, ht, hmp, hbw⟩ := hrel
    have hz := hbw.size
    have hmlt := hmp.lt
    replace hmp := Lib.hid hmp
    by_cases hkl : k < l.length
    · obtain ⟨x, hx⟩ := get_some hkl
      rw [nms_at hx] at ht
      have hns : l.take (k + 1) = l.take k ++ [x] := by rw [List.take_add_one, hx]; rfl
      obtain ⟨g, o, rfl, hg, hq⟩ := hr.out (by omega)
      have q0 := (hbw.cell (p := ⟨g, o + k * 1 + 0, none⟩) hg).trans (hq k x hx 0 (.string x.1) rfl)
      rw [Nat.add_zero, Nat.mul_one] at q0
      clear hq
      have i0 : (0 : Int) ≤ (k : Int) := by omega
      have i1 : (k : Int) < (l.length : Int) := by omega
      have hxs := hs.out x (List.mem_of_getElem? hx)
      have hnl : x.1.size ≤ maxLen := by simp only [maxLen]; omega
      have hpa0 := fun W (hb : Below w.heap.size w W) => parts_any x W (hG.out.keep hb) hxs
      obtain ⟨P, hP0⟩ : ∃ P, pathE x = P := ⟨_, rfl⟩
      rw [hP0] at hpa0
      have hpa := Lib.hid hpa0
      clear hpa0
      obtain ⟨S, hS⟩ : ∃ S, hasS (l.take k) x = S := ⟨_, rfl⟩
      have hsn : Hid (S = true ↔ SeenR (l.take k) (litS x)) := Lib.hid (by rw [← hS]; exact seenr_iff)
      have hsx : Hid (∀ y, SeenR (l.take (k + 1)) y ↔ y = litS x ∨ SeenR (l.take k) y) := Lib.hid (by rw [hns]; exact seenr_succ _ _)
      by_cases hp0 : P = 0
      · have hPE : pathB x = true := pathB_of.2 (hP0.trans hp0)
        subst hp0
        replace hP0 := Lib.hid hP0
        rcases S with _ | _
        · have hn2 : Hid (nmsErr (l.take (k + 1)) (l.drop (k + 1)) = R) := Lib.hid (by rw [nm_0 hPE hS, if_pos rfl] at ht; exact ht)
          replace hx := Lib.hid hx
          replace hPE := Lib.hid hPE
          replace ht := Lib.hid ht
          replace hns := Lib.hid hns
          replace hS := Lib.hid hS
          go_wp2_with (first
            | (go_at_call 49; go_must (refine (hpa.out _ (by repeat (first | (with_reducible exact Below.refl _ _) | (with_reducible refine Below.drew ?_) | (with_reducible refine below_drewN ?_ _) | ((with_reducible refine Below.alloc ?_ ?_ _); rotate_left; focus ((try simp) <;> omega)) | ((with_reducible refine Below.setCell ?_ ?_ _); rotate_left; focus ((try simp) <;> omega)) | ((with_reducible refine Below.trans ?_ (Below.mono (by assumption) ?_)); rotate_left; focus ((try simp) <;> omega))))).mono ?_; rintro e w2 ⟨A2, c2, rfl, -, -, hb2⟩; have hz2 := hb2.size; (try simp at hz2)))
            | (at_lookup; refine wpList_look_mapb rfl (.tmp 35) (.tmp 36) 75 rfl 9 4 (Go.Maps.string_keyed Tryz.underlying9) Tryz.underlying75 Tryz.underlying4 (by kernel_rfl) w.heap.size k (SeenR (l.take k)) rfl (hmp.out.keep (B := wr.heap.size) (by repeat (first | (with_reducible exact Below.refl _ _) | (with_reducible refine Below.drew ?_) | (with_reducible refine below_drewN ?_ _) | ((with_reducible refine Below.alloc ?_ ?_ _); rotate_left; focus ((try simp) <;> omega)) | ((with_reducible refine Below.setCell ?_ ?_ _); rotate_left; focus ((try simp) <;> omega)) | ((with_reducible refine Below.trans ?_ (Below.mono (by assumption) ?_)); rotate_left; focus ((try simp) <;> omega)))) hmlt) _ (litS x) rfl (Go.WideMaps.keyOf_string_mk Tryz.underlying9 hnl) false (by simpa using hsn.out) ?_)
            | (at_mapUpdate; refine wpList_put_mapb rfl (.tmp 38) (.tmp 39) (.const (.bool true)) 75 rfl 9 4 (Go.Maps.string_keyed Tryz.underlying9) Tryz.underlying75 Tryz.underlying4 w.heap.size k (SeenR (l.take k)) rfl (hmp.out.keep (B := wr.heap.size) (by repeat (first | (with_reducible exact Below.refl _ _) | (with_reducible refine Below.drew ?_) | (with_reducible refine below_drewN ?_ _) | ((with_reducible refine Below.alloc ?_ ?_ _); rotate_left; focus ((try simp) <;> omega)) | ((with_reducible refine Below.setCell ?_ ?_ _); rotate_left; focus ((try simp) <;> omega)) | ((with_reducible refine Below.trans ?_ (Below.mono (by assumption) ?_)); rotate_left; focus ((try simp) <;> omega)))) hmlt) (by simp only [maxLen]; omega) _ (litS x) rfl rfl (Go.WideMaps.keyOf_string_mk Tryz.underlying9 hnl) trivial ?_; intro w3 hmp3 hg3; have hz3 := hg3.size))
          go_roundw
          case rel => exact ⟨k + 1, hkl, by go_num, hn2.out, hmp3.congr hsx.out, Below.grown (by repeat (first | (with_reducible exact Below.refl _ _) | (with_reducible refine Below.drew ?_) | (with_reducible refine below_drewN ?_ _) | ((with_reducible refine Below.alloc ?_ ?_ _); rotate_left; focus ((try simp) <;> omega)) | ((with_reducible refine Below.setCell ?_ ?_ _); rotate_left; focus ((try simp) <;> omega)) | ((with_reducible refine Below.trans ?_ (Below.mono (by assumption) ?_)); rotate_left; focus ((try simp) <;> omega)))) hg3 (by (try simp) <;> omega) (fun g hg => by simp at hg; omega)⟩
          case measure => simp [intOf]; omega
        · have hf : Hid (R = 7) := Lib.hid (by rw [nm_7 hPE hS] at ht; exact ht.symm)
          replace hx := Lib.hid hx
          replace hPE := Lib.hid hPE
          replace ht := Lib.hid ht
          replace hns := Lib.hid hns
          replace hS := Lib.hid hS
          go_wp2_with (first
            | (go_at_call 49; go_must (refine (hpa.out _ (by repeat (first | (with_reducible exact Below.refl _ _) | (with_reducible refine Below.drew ?_) | (with_reducible refine below_drewN ?_ _) | ((with_reducible refine Below.alloc ?_ ?_ _); rotate_left; focus ((try simp) <;> omega)) | ((with_reducible refine Below.setCell ?_ ?_ _); rotate_left; focus ((try simp) <;> omega)) | ((with_reducible refine Below.trans ?_ (Below.mono (by assumption) ?_)); rotate_left; focus ((try simp) <;> omega))))).mono ?_; rintro e w2 ⟨A2, c2, rfl, -, -, hb2⟩; have hz2 := hb2.size; (try simp at hz2)))
            | (at_lookup; refine wpList_look_mapb rfl (.tmp 35) (.tmp 36) 75 rfl 9 4 (Go.Maps.string_keyed Tryz.underlying9) Tryz.underlying75 Tryz.underlying4 (by kernel_rfl) w.heap.size k (SeenR (l.take k)) rfl (hmp.out.keep (B := wr.heap.size) (by repeat (first | (with_reducible exact Below.refl _ _) | (with_reducible refine Below.drew ?_) | (with_reducible refine below_drewN ?_ _) | ((with_reducible refine Below.alloc ?_ ?_ _); rotate_left; focus ((try simp) <;> omega)) | ((with_reducible refine Below.setCell ?_ ?_ _); rotate_left; focus ((try simp) <;> omega)) | ((with_reducible refine Below.trans ?_ (Below.mono (by assumption) ?_)); rotate_left; focus ((try simp) <;> omega)))) hmlt) _ (litS x) rfl (Go.WideMaps.keyOf_string_mk Tryz.underlying9 hnl) true (by simpa using hsn.out) ?_))
          go_ret
          exact ⟨by rw [hf.out]; rfl, (by repeat (first | (with_reducible exact Below.refl _ _) | (with_reducible refine Below.drew ?_) | (with_reducible refine below_drewN ?_ _) | ((with_reducible refine Below.alloc ?_ ?_ _); rotate_left; focus ((try simp) <;> omega)) | ((with_reducible refine Below.setCell ?_ ?_ _); rotate_left; focus ((try simp) <;> omega)) | ((with_reducible refine Below.trans ?_ (Below.mono (by assumption) ?_)); rotate_left; focus ((try simp) <;> omega))))⟩
      · have hPE : pathB x = false := pathB_no.2 (fun e => hp0 (hP0.symm.trans e))
        have hf : Hid (R = 1) := Lib.hid (by rw [nm_1 hPE] at ht; exact ht.symm)
        have hPb : (P != 0) = true := by rw [bne_iff_ne]; exact hp0
        replace hP0 := Lib.hid hP0
        replace hp0 := Lib.hid hp0
        replace hx := Lib.hid hx
        replace hPE := Lib.hid hPE
        replace ht := Lib.hid ht
        replace hns := Lib.hid hns
        replace hS := Lib.hid hS
        go_wp2_with (go_at_call 49; go_must (refine (hpa.out _ (by repeat (first | (with_reducible exact Below.refl _ _) | (with_reducible refine Below.drew ?_) | (with_reducible refine below_drewN ?_ _) | ((with_reducible refine Below.alloc ?_ ?_ _); rotate_left; focus ((try simp) <;> omega)) | ((with_reducible refine Below.setCell ?_ ?_ _); rotate_left; focus ((try simp) <;> omega)) | ((with_reducible refine Below.trans ?_ (Below.mono (by assumption) ?_)); rotate_left; focus ((try simp) <;> omega))))).mono ?_; rintro e w2 ⟨A2, c2, rfl, -, -, hb2⟩; have hz2 := hb2.size; (try simp at hz2)))
        go_ret
        exact ⟨by rw [hf.out]; rfl, (by repeat (first | (with_reducible exact Below.refl _ _) | (with_reducible refine Below.drew ?_) | (with_reducible refine below_drewN ?_ _) | ((with_reducible refine Below.alloc ?_ ?_ _); rotate_left; focus ((try simp) <;> omega)) | ((with_reducible refine Below.setCell ?_ ?_ _); rotate_left; focus ((try simp) <;> omega)) | ((with_reducible refine Below.trans ?_ (Below.mono (by assumption) ?_)); rotate_left; focus ((try simp) <;> omega))))⟩
    · have i1 : ¬ (k : Int) < (l.length : Int) := by omega
      have hf : Hid (R = 0) := Lib.hid (by rw [← ht, List.drop_eq_nil_of_le (by omega)]; rfl)
      replace ht := Lib.hid ht
      go_wp2_with fail
      go_ret
      exact ⟨by rw [hf.out]; rfl, (by repeat (first | (with_reducible exact Below.refl _ _) | (with_reducible refine Below.drew ?_) | (with_reducible refine below_drewN ?_ _) | ((with_reducible refine Below.alloc ?_ ?_ _); rotate_left; focus ((try simp) <;> omega)) | ((with_reducible refine Below.setCell ?_ ?_ _); rotate_left; focus ((try simp) <;> omega)) | ((with_reducible refine Below.trans ?_ (Below.mono (by assumption) ?_)); rotate_left; focus ((try simp) <;> omega))))⟩
set_option maxRecDepth 100000 in
set_option maxHeartbeats 8000000 in
theorem rcheck_any (A : Option Addr) (c : Nat) (l : List Str) (n : Int) (w : World) (hr : Rw sE 1 w w.heap.size A l) (hn : l.length ≤ 9223372036854775807) (hlc : l.length ≤ c) (hs : ∀ x ∈ l, x.1.size < 4294967281) :
    Calls Tryz.prog 38 #[.slice A l.length c, .int .i64 n] w fun e w' => e = .returned (.int .i64 (splErr l n)) ∧ Below w.heap.size w w' := by
  obtain ⟨R, hR⟩ : ∃ R, splErr l n = R := ⟨_, rfl⟩
  rw [hR]
  by_cases h1 : n < 1
  · have hf : Hid (R = 2) := Lib.hid (by rw [← hR, spl_2 (.inl h1)])
    replace hR := Lib.hid hR
    clear hr
    go_enter Tryz.func38, Tryz.ntmps38
    go_wp2_with fail
    go_ret
    exact ⟨by rw [hf.out]; rfl, (by repeat (first | (with_reducible exact Below.refl _ _) | (with_reducible refine Below.drew ?_) | (with_reducible refine below_drewN ?_ _) | ((with_reducible refine Below.alloc ?_ ?_ _); rotate_left; focus ((try simp) <;> omega)) | ((with_reducible refine Below.setCell ?_ ?_ _); rotate_left; focus ((try simp) <;> omega)) | ((with_reducible refine Below.trans ?_ (Below.mono (by assumption) ?_)); rotate_left; focus ((try simp) <;> omega))))⟩
  by_cases h2 : 64 < n
  · have hf : Hid (R = 2) := Lib.hid (by rw [← hR, spl_2 (.inr h2)])
    replace hR := Lib.hid hR
    clear hr
    go_enter Tryz.func38, Tryz.ntmps38
    go_wp2_with fail
    go_ret
    exact ⟨by rw [hf.out]; rfl, (by repeat (first | (with_reducible exact Below.refl _ _) | (with_reducible refine Below.drew ?_) | (with_reducible refine below_drewN ?_ _) | ((with_reducible refine Below.alloc ?_ ?_ _); rotate_left; focus ((try simp) <;> omega)) | ((with_reducible refine Below.setCell ?_ ?_ _); rotate_left; focus ((try simp) <;> omega)) | ((with_reducible refine Below.trans ?_ (Below.mono (by assumption) ?_)); rotate_left; focus ((try simp) <;> omega))))⟩
  by_cases hl : 4096 < l.length
  · have hf : Hid (R = 15) := Lib.hid (by rw [← hR, spl_15 (by omega) hl])
    have hlz : (4096 : Int) < (l.length : Int) := by omega
    replace hR := Lib.hid hR
    clear hr
    go_enter Tryz.func38, Tryz.ntmps38
    go_wp2_with fail
    go_ret
    exact ⟨by rw [hf.out]; rfl, (by repeat (first | (with_reducible exact Below.refl _ _) | (with_reducible refine Below.drew ?_) | (with_reducible refine below_drewN ?_ _) | ((with_reducible refine Below.alloc ?_ ?_ _); rotate_left; focus ((try simp) <;> omega)) | ((with_reducible refine Below.setCell ?_ ?_ _); rotate_left; focus ((try simp) <;> omega)) | ((with_reducible refine Below.trans ?_ (Below.mono (by assumption) ?_)); rotate_left; focus ((try simp) <;> omega))))⟩
  have hR0 : Hid (nmsErr [] l = R) := Lib.hid (by rw [← hR, spl_in (by omega) hl])
  have hlz : ¬ (4096 : Int) < (l.length : Int) := by omega
  replace hR := Lib.hid hR
  have hhas := Lib.hid fun (k : Nat) (s : Str) (W : World) (hk : k ≤ l.length) (hb : Below w.heap.size w W) => (by
    have h := rhas_any A c (l.take k) s W ((hr.take.below hb (Nat.le_refl _)).more hb.size) (by rw [List.length_take]; omega)
    rw [List.length_take, Nat.min_eq_left hk] at h
    exact h.mono fun e w' ⟨h1, h2⟩ => ⟨h1, h2 ▸ Below.refl _ _⟩ : Calls Tryz.prog 20 #[.slice A k c, .string s.1] W fun e w' => e = .returned (.bool (hasB s (l.take k))) ∧ Below W.heap.size W w')
  replace hr := Lib.hid hr
  replace hs := Lib.hid hs
  go_enter Tryz.func38, Tryz.ntmps38
  go_wp2_with fail
  go_loopw [5] (fun vi wr => ∃ k : Nat, k ≤ l.length ∧ vi = .int .i64 (k : Int) ∧ nmsErr (l.take k) (l.drop k) = R ∧ Below w.heap.size w wr) (fun vi _ => l.length - (intOf vi).toNat)
  case atStart => exact ⟨0, Nat.zero_le _, rfl, hR0.out, Below.refl _ _⟩
  case round =>
    obtain ⟨k, hk, rfl, ht, hbw⟩ := hrel
    have hz := hbw.size
    by_cases hkl : k < l.length
    · obtain ⟨x, hx⟩ := get_some hkl
      rw [nms_at hx] at ht
      obtain ⟨g, o, rfl, hg, hq⟩ := hr.out (by omega)
      have q0 := (hbw.cell (p := ⟨g, o + k * 1 + 0, none⟩) hg).trans (hq k x hx 0 (.string x.1) rfl)
      rw [Nat.add_zero, Nat.mul_one] at q0
      clear hq
      have i0 : (0 : Int) ≤ (k : Int) := by omega
      have i1 : (k : Int) < (l.length : Int) := by omega
      have i2 : (k : Int) ≤ (c : Int) := by omega
      have hgr : g < wr.heap.size := by omega
      have hxs := hs.out x (List.mem_of_getElem? hx)
      have hpa0 := fun W => rispath_any x W hxs
      have hha0 := fun W hb => hhas.out k x W (by omega) hb
      obtain ⟨S, hS⟩ : ∃ S, hasS (l.take k) x = S := ⟨_, rfl⟩
      rw [show hasB x (l.take k) = hasS (l.take k) x from rfl, hS] at hha0
      rcases hPE : pathB x with _ | _
      · have hf : Hid (R = 1) := Lib.hid (by rw [nm_1 hPE] at ht; exact ht.symm)
        rw [hPE] at hpa0
        have hpa := Lib.hid hpa0
        clear hpa0 hha0
        replace hx := Lib.hid hx
        replace hPE := Lib.hid hPE
        replace ht := Lib.hid ht
        replace hS := Lib.hid hS
        go_wp2_with (go_at_call 57; go_must (refine (hpa.out _).mono ?_; rintro e w2 ⟨rfl, hb2⟩; have hz2 := hb2.size; (try simp at hz2)))
        go_ret
        exact ⟨by rw [hf.out]; rfl, (by repeat (first | (with_reducible exact Below.refl _ _) | (with_reducible refine Below.drew ?_) | (with_reducible refine below_drewN ?_ _) | ((with_reducible refine Below.alloc ?_ ?_ _); rotate_left; focus ((try simp) <;> omega)) | ((with_reducible refine Below.setCell ?_ ?_ _); rotate_left; focus ((try simp) <;> omega)) | ((with_reducible refine Below.trans ?_ (Below.mono (by assumption) ?_)); rotate_left; focus ((try simp) <;> omega))))⟩
      · rw [hPE] at hpa0
        have hpa := Lib.hid hpa0
        clear hpa0
        rcases S with _ | _
        · have hn2 : Hid (nmsErr (l.take (k + 1)) (l.drop (k + 1)) = R) := Lib.hid (by rw [nm_0 hPE hS, if_pos rfl] at ht; exact ht)
          have hha := Lib.hid hha0
          clear hha0
          replace hx := Lib.hid hx
          replace hPE := Lib.hid hPE
          replace ht := Lib.hid ht
          replace hS := Lib.hid hS
          go_upto_region 10 with (go_at_call 57; go_must (refine (hpa.out _).mono ?_; rintro e w2 ⟨rfl, hb2⟩; have hz2 := hb2.size; (try simp at hz2)))
          have q2 := fun d os => cell_regrown ((hb2.cell (p := ⟨g, o + k, none⟩) hgr).trans q0) d os
          have hbw2 : Below w.heap.size w w2 := hbw.trans (hb2.mono hz)
          refine wp_region_quiet_below (by kernel_rfl) (by kernel_rfl) ?_
          repeat (go_big_quiet_step ((go_at_call 20; exact Calls.regrown_of (hha.out _ (hbw2.trans ((below_regrown _ _ _).mono (by omega)))))))
          refine wpQuiet_nil ?_
          intro w3 hw3
          have hb3 := below_of_regrown hw3
          clear hw3
          have hz3 := hb3.size
          go_wp2_with fail
          go_roundw
          case rel => exact ⟨k + 1, hkl, by go_num, hn2.out, (by repeat (first | (with_reducible exact Below.refl _ _) | (with_reducible refine Below.drew ?_) | (with_reducible refine below_drewN ?_ _) | ((with_reducible refine Below.alloc ?_ ?_ _); rotate_left; focus ((try simp) <;> omega)) | ((with_reducible refine Below.setCell ?_ ?_ _); rotate_left; focus ((try simp) <;> omega)) | ((with_reducible refine Below.trans ?_ (Below.mono (by assumption) ?_)); rotate_left; focus ((try simp) <;> omega))))⟩
          case measure => simp [intOf]; omega
        · have hf : Hid (R = 7) := Lib.hid (by rw [nm_7 hPE hS] at ht; exact ht.symm)
          have hha := Lib.hid hha0
          clear hha0
          replace hx := Lib.hid hx
          replace hPE := Lib.hid hPE
          replace ht := Lib.hid ht
          replace hS := Lib.hid hS
          go_upto_region 10 with (go_at_call 57; go_must (refine (hpa.out _).mono ?_; rintro e w2 ⟨rfl, hb2⟩; have hz2 := hb2.size; (try simp at hz2)))
          have q2 := fun d os => cell_regrown ((hb2.cell (p := ⟨g, o + k, none⟩) hgr).trans q0) d os
          have hbw2 : Below w.heap.size w w2 := hbw.trans (hb2.mono hz)
          refine wp_region_quiet_below (by kernel_rfl) (by kernel_rfl) ?_
          repeat (go_big_quiet_step ((go_at_call 20; exact Calls.regrown_of (hha.out _ (hbw2.trans ((below_regrown _ _ _).mono (by omega)))))))
          refine wpQuiet_nil ?_
          intro w3 hw3
          have hb3 := below_of_regrown hw3
          clear hw3
          have hz3 := hb3.size
          go_wp2_with fail
          go_ret
          exact ⟨by rw [hf.out]; rfl, (by repeat (first | (with_reducible exact Below.refl _ _) | (with_reducible refine Below.drew ?_) | (with_reducible refine below_drewN ?_ _) | ((with_reducible refine Below.alloc ?_ ?_ _); rotate_left; focus ((try simp) <;> omega)) | ((with_reducible refine Below.setCell ?_ ?_ _); rotate_left; focus ((try simp) <;> omega)) | ((with_reducible refine Below.trans ?_ (Below.mono (by assumption) ?_)); rotate_left; focus ((try simp) <;> omega))))⟩
    · have i1 : ¬ (k : Int) < (l.length : Int) := by omega
      have hf : Hid (R = 0) := Lib.hid (by rw [← ht, List.drop_eq_nil_of_le (by omega)]; rfl)
      replace ht := Lib.hid ht
      go_wp2_with fail
      go_ret
      exact ⟨by rw [hf.out]; rfl, (by repeat (first | (with_reducible exact Below.refl _ _) | (with_reducible refine Below.drew ?_) | (with_reducible refine below_drewN ?_ _) | ((with_reducible refine Below.alloc ?_ ?_ _); rotate_left; focus ((try simp) <;> omega)) | ((with_reducible refine Below.setCell ?_ ?_ _); rotate_left; focus ((try simp) <;> omega)) | ((with_reducible refine Below.trans ?_ (Below.mono (by assumption) ?_)); rotate_left; focus ((try simp) <;> omega))))⟩
end Go.Proofs.YtdjepnilmgembaaGreatDoor
