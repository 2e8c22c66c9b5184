/-
  The walks of the layer of names: the first of some numbers that is not 0, the comparison of two runs of digits, the natural order of strings.
-/
import Derived.Test.YtdjepnilmgembaaGreatDoorIdent1
import Derived.Test.YtdjepnilmgembaaGreatDoorShelf

namespace Go.Proofs.YtdjepnilmgembaaGreatDoor
open Go.RowKit

/-- The first number that is not 0. -/
def orI : List Int → Int
  | [] => 0
  | x :: l => if x ≠ 0 then x else orI l
theorem orI_drop {l : List Int} {k : Nat} (h : k < l.length) : orI (l.drop k) = if l.getD k 0 ≠ 0 then l.getD k 0 else orI (l.drop (k + 1)) := by
  have e : l.getD k 0 = l[k] := by simp [h]
  rw [List.drop_eq_getElem_cons h, e]
  rfl

theorem or_any (g o n c : Nat) (l : List Int) (w : World) (hl : l.length = n) (hn : n ≤ 9223372036854775807) (hc : ∀ i, i < n → w.cell? ⟨g, o + i, none⟩ = some (.int .i64 (l.getD i 0))) :
    Calls Tryz.prog 33 #[.slice (some ⟨g, o, none⟩) n c] w fun e w' => e = .returned (.int .i64 (orI l)) ∧ w = w' := by
  replace hc := Lib.hid hc
  go_enter Tryz.func33, Tryz.ntmps33
  go_wp2_with fail
  go_loop [5, 8] (fun _ i => ∃ k : Nat, k ≤ n ∧ i = .int .i64 k ∧ orI l = orI (l.drop k)) (fun _ i => n - (intOf i).toNat)
  case atStart => exact ⟨0, Nat.zero_le _, rfl, by simp⟩
  case round =>
    obtain ⟨k, hk, rfl, hr⟩ := hrel
    replace hr := Lib.hid hr
    by_cases hlt : k < n
    · have c0 := hc.out k hlt
      have hd := Lib.hid (orI_drop (show k < l.length by omega))
      by_cases h0 : l.getD k 0 = 0
      · have hz : ∀ x, x = l.getD k 0 → x = 0 := fun x hx => hx.trans h0
        replace h0 := Lib.hid h0
        generalize l.getD k 0 = x at *
        obtain rfl := h0.out
        go_wp2_with fail
        go_round
        case rel => exact ⟨k + 1, by omega, by go_num, by rw [hr.out, hd.out]; simp⟩
        case measure => simp [intOf]; omega
      · replace hd := Lib.hid (hd.out.trans (if_pos h0))
        generalize l.getD k 0 = x at *
        have hx : (x == 0) = false := by simpa using h0
        have hx2 : (x != 0) = true := by simpa using h0
        go_wp2_with fail
        go_ret
        exact ⟨ret_int (by rw [hr.out, hd.out]), rfl⟩
    · go_wp2_with fail
      go_ret
      exact ⟨ret_int (by rw [hr.out, List.drop_eq_nil_of_le (by omega)]; rfl), rfl⟩

theorem orI_three (a b c : Int) : orI [a, b, c] = Id.or3 a b c := by
  unfold orI Id.or3 orI orI
  by_cases ha : a = 0 <;> by_cases hb : b = 0 <;> by_cases hc : c = 0 <;> simp [ha, hb, hc, orI]

theorem trim_strip : ∀ (l : List UInt8), Lib.trimLeftB l 48 = Id.strip l := by
  intro l
  induction l with
  | nil => simp [Lib.trimLeftB, Id.strip]
  | cons c l ih =>
    unfold Id.strip
    by_cases h : c = 48
    · subst h; rw [if_pos rfl, ← ih]; simp [Lib.trimLeftB]
    · rw [if_neg h]; simp [Lib.trimLeftB, h]

theorem trim_any (s : ByteArray) (w : World) :
    Calls Tryz.prog 81 #[.string s, .string ⟨#[48]⟩] w fun e w' => ∃ x : ByteArray, e = .returned (.string x) ∧ w = w' ∧ x.toList = Id.strip s.toList :=
  (Tryz.strings_TrimLeft_one s 48 (by decide) w).mono fun _ _ ⟨he, hw⟩ => ⟨_, he, hw.symm, by rw [Lib.toList_data, Lib.toList_data, ← trim_strip]⟩

theorem strip_len (l : List UInt8) : (Id.strip l).length ≤ l.length := (Id.strip_eq l).2

theorem nums_any (a b : ByteArray) (_ha : a.size ≤ 9223372036854775807) (_hb : b.size ≤ 9223372036854775807) (w : World) :
    Calls Tryz.prog 53 #[.string a, .string b] w fun e w' => e = .returned (.int .i64 (Id.nums a.toList b.toList)) ∧ Bel w.heap.size w w' := by
  go_enter Tryz.func53, Tryz.ntmps53
  go_wp2_with fail
  refine (trim_any a _).mono ?_
  rintro e w1 ⟨x, rfl, rfl, hx⟩
  replace hx := Lib.hid hx
  go_wp2_with fail
  refine (trim_any b _).mono ?_
  rintro e w1 ⟨y, rfl, rfl, hy⟩
  replace hy := Lib.hid hy
  go_wp2_with (first
    | (go_at_call 34; go_must (refine (cmpInt_any _ _ _).mono ?_; rintro e w2 ⟨rfl, rfl⟩))
    | (go_at_call 82; go_must (refine (cmpStr_any _ _ _).mono ?_; rintro e w2 ⟨rfl, rfl⟩)))
  refine (or_any _ _ 3 3 [Id.cmpI x.size y.size, Id.cmpB x.toList y.toList, Id.cmpI a.size b.size] _ rfl (by omega) ?_).mono ?_
  · intro i hi
    match i, hi with
    | 0, _ => simp
    | 1, _ => simp
    | 2, _ => simp
  rintro e w2 ⟨rfl, rfl⟩
  go_wp2_with fail
  go_ret
  refine ⟨ret_int ?_, (by repeat (first | (with_reducible exact Bel.refl _ _) | (with_reducible refine Bel.drew ?_) | (with_reducible refine Bel.drewN ?_ _) | ((with_reducible refine Bel.alloc ?_ ?_ _); rotate_left; focus ((try simp) <;> omega)) | ((with_reducible refine Bel.setCell ?_ ?_ _); rotate_left; focus ((try simp) <;> omega)) | ((with_reducible refine Bel.trans ?_ (Bel.mono (by assumption) ?_)); rotate_left; focus ((try simp) <;> omega))))⟩
  rw [orI_three]
  unfold Id.nums
  rw [← hx.out, ← hy.out, toList_len, toList_len, toList_len, toList_len]

theorem empty_iff (s : ByteArray) : s.toList.isEmpty = true ↔ s.size = 0 := by
  rw [List.isEmpty_iff, ← List.length_eq_zero_iff, toList_len]

theorem head_get (s : ByteArray) (h : 0 < s.size) : s.toList.head? = some s[0] ∧ s.toList.headD 0 = s[0] := by
  have h2 := toList_get s 0 h
  have h3 : s.toList.head? = some s[0] := by rw [← h2]; cases s.toList <;> rfl
  exact ⟨h3, by rw [List.headD_eq_head?_getD, h3]; rfl⟩
set_option maxHeartbeats 1000000 in
theorem compare_any (a b : ByteArray) (ha : a.size ≤ 9223372036854775807) (hb : b.size ≤ 9223372036854775807) (w : World) :
    Calls Tryz.prog 35 #[.string a, .string b] w fun e w' => e = .returned (.int .i64 (Id.cmpN a.toList b.toList)) ∧ Bel w.heap.size w w' := by
  obtain ⟨B, hB⟩ : ∃ B, w.heap.size = B := ⟨_, rfl⟩
  rw [hB]
  have hB2 := Nat.le_of_eq hB
  have hB3 := Nat.le_of_eq hB.symm
  replace hB := Lib.hid hB
  go_enter Tryz.func35, Tryz.ntmps35
  go_wp2_with fail
  go_loopw [0, 1, 5, 6, 7] (fun va vb _ _ _ wr => ∃ x y : ByteArray, va = .string x ∧ vb = .string y ∧ x.size ≤ 9223372036854775807 ∧ y.size ≤ 9223372036854775807 ∧ Id.cmpN a.toList b.toList = Id.cmpN x.toList y.toList ∧ Bel B w wr) (fun va _ _ _ _ _ => match va with | .string x => x.size | _ => 0)
  case atStart => exact ⟨a, b, rfl, rfl, ha, hb, rfl, by rw [← hB.out]; exact Bel.refl _ _⟩
  case round =>
    obtain ⟨x, y, rfl, rfl, hx, hy, hr, hbw⟩ := hrel
    replace hr := Lib.hid hr
    have hzw := hbw.size
    by_cases hx0 : x.size = 0
    · have ex : x.toList.isEmpty = true := (empty_iff x).2 hx0
      go_wp2_with (first | (go_at_call 34; go_must (refine (cmpInt_any _ _ _).mono ?_; rintro e w2 ⟨rfl, rfl⟩)))
      go_ret
      refine ⟨ret_int ?_, (by repeat (first | (with_reducible exact Bel.refl _ _) | (with_reducible refine Bel.drew ?_) | (with_reducible refine Bel.drewN ?_ _) | ((with_reducible refine Bel.alloc ?_ ?_ _); rotate_left; focus ((try simp) <;> omega)) | ((with_reducible refine Bel.setCell ?_ ?_ _); rotate_left; focus ((try simp) <;> omega)) | ((with_reducible refine Bel.trans ?_ (Bel.mono (by assumption) ?_)); rotate_left; focus ((try simp) <;> omega))))⟩
      rw [hr.out, Id.cmpN_end (.inl (by simpa using ex)), toList_len, toList_len, hx0]
      rfl
    · have ex : x.toList.isEmpty = false := by rw [← Bool.not_eq_true, empty_iff]; exact hx0
      by_cases hy0 : y.size = 0
      · have ey : y.toList.isEmpty = true := (empty_iff y).2 hy0
        go_wp2_with (first | (go_at_call 34; go_must (refine (cmpInt_any _ _ _).mono ?_; rintro e w2 ⟨rfl, rfl⟩)))
        go_ret
        refine ⟨ret_int ?_, (by repeat (first | (with_reducible exact Bel.refl _ _) | (with_reducible refine Bel.drew ?_) | (with_reducible refine Bel.drewN ?_ _) | ((with_reducible refine Bel.alloc ?_ ?_ _); rotate_left; focus ((try simp) <;> omega)) | ((with_reducible refine Bel.setCell ?_ ?_ _); rotate_left; focus ((try simp) <;> omega)) | ((with_reducible refine Bel.trans ?_ (Bel.mono (by assumption) ?_)); rotate_left; focus ((try simp) <;> omega))))⟩
        rw [hr.out, Id.cmpN_end (.inr (by simpa using ey)), toList_len, toList_len, hy0]
        rfl
      · have ey : y.toList.isEmpty = false := by rw [← Bool.not_eq_true, empty_iff]; exact hy0
        have nx : x.toList ≠ [] := by simpa using ex
        have ny : y.toList ≠ [] := by simpa using ey
        have lx := Id.runN_le x.toList
        have ly := Id.runN_le y.toList
        rw [toList_len] at lx ly
        have s1 := Lib.hid (@Id.cmpN_run x.toList y.toList nx ny)
        have s2 := Lib.hid (@Id.cmpN_byte x.toList y.toList nx ny)
        obtain ⟨N, hN⟩ : ∃ N, Id.runN x.toList = N := ⟨_, rfl⟩
        obtain ⟨M, hM⟩ : ∃ M, Id.runN y.toList = M := ⟨_, rfl⟩
        rw [hN] at lx s1 s2
        rw [hM] at ly s1 s2
        replace hN := Lib.hid hN
        replace hM := Lib.hid hM
        replace nx := Lib.hid nx
        replace ny := Lib.hid ny
        go_wp2_with fail
        refine (run_any x (by omega) _).mono ?_
        rintro e w2 ⟨rfl, rfl⟩
        rw [hN.out]
        go_wp2_with fail
        refine (run_any y (by omega) _).mono ?_
        rintro e w2 ⟨rfl, rfl⟩
        rw [hM.out]
        by_cases hn : 0 < N
        · by_cases hm : 0 < M
          · go_wp2_with fail
            go_region_held3 (fun _ => True) (trivial) (first | (go_at_call 53; go_must (refine (nums_any _ _ ?_ ?_ _).mono ?_; (focus ((try simp) <;> omega)); (focus ((try simp) <;> omega)); rintro e w3 ⟨rfl, hb3⟩)))
            go_wp2_with fail
            · go_ret
              refine ⟨ret_int ?_, (by repeat (first | (with_reducible exact Bel.refl _ _) | (with_reducible refine Bel.drew ?_) | (with_reducible refine Bel.drewN ?_ _) | ((with_reducible refine Bel.alloc ?_ ?_ _); rotate_left; focus ((try simp) <;> omega)) | ((with_reducible refine Bel.setCell ?_ ?_ _); rotate_left; focus ((try simp) <;> omega)) | ((with_reducible refine Bel.trans ?_ (Bel.mono (by assumption) ?_)); rotate_left; focus ((try simp) <;> omega))))⟩
              have hne : Id.nums (x.extract 0 N).toList (y.extract 0 M).toList ≠ 0 := by simpa using ‹(Id.nums (x.extract 0 N).toList (y.extract 0 M).toList != 0) = true›
              rw [hr.out, s1.out (by omega) (by omega), ← ext_head, ← ext_head, if_pos hne]
            · have hne : Id.nums (x.extract 0 N).toList (y.extract 0 M).toList = 0 := by simpa using ‹(Id.nums (x.extract 0 N).toList (y.extract 0 M).toList != 0) = false›
              replace hne := Lib.hid hne
              go_quiet (fail)
              go_wp2_with fail
              go_roundw
              case rel => exact ⟨x.extract N x.size, y.extract M y.size, rfl, rfl, by simp; omega, by simp; omega, by rw [hr.out, s1.out (by omega) (by omega), ← ext_head, ← ext_head, if_neg (by rw [hne.out]; simp), ext_end, ext_end], (by repeat (first | (with_reducible exact Bel.refl _ _) | (with_reducible refine Bel.drew ?_) | (with_reducible refine Bel.drewN ?_ _) | ((with_reducible refine Bel.alloc ?_ ?_ _); rotate_left; focus ((try simp) <;> omega)) | ((with_reducible refine Bel.setCell ?_ ?_ _); rotate_left; focus ((try simp) <;> omega)) | ((with_reducible refine Bel.trans ?_ (Bel.mono (by assumption) ?_)); rotate_left; focus ((try simp) <;> omega))))⟩
              case measure => simp; omega
          · have x1 : 0 < x.size := by omega
            have y1 : 0 < y.size := by omega
            have x2 : (1 : Int) ≤ (x.size : Int) := by omega
            have y2 : (1 : Int) ≤ (y.size : Int) := by omega
            have x3 : 1 ≤ x.size := x1
            have y3 : 1 ≤ y.size := y1
            replace s2 := Lib.hid (s2.out (by omega))
            by_cases hh : x[0] = y[0]
            · have hz : ((x[0].toNat : Int) != (y[0].toNat : Int)) = false := by rw [hh]; simp
              replace hh := Lib.hid hh
              go_wp2_with fail
              go_quiet (fail)
              go_wp2_with fail
              go_quiet (fail)
              go_wp2_with fail
              go_roundw
              case rel => exact ⟨x.extract 1 x.size, y.extract 1 y.size, rfl, rfl, by simp; omega, by simp; omega, by rw [hr.out, s2.out, (head_get x x1).1, (head_get y y1).1, if_neg (by rw [hh.out]; simp), ext_end, ext_end, List.drop_one, List.drop_one], (by repeat (first | (with_reducible exact Bel.refl _ _) | (with_reducible refine Bel.drew ?_) | (with_reducible refine Bel.drewN ?_ _) | ((with_reducible refine Bel.alloc ?_ ?_ _); rotate_left; focus ((try simp) <;> omega)) | ((with_reducible refine Bel.setCell ?_ ?_ _); rotate_left; focus ((try simp) <;> omega)) | ((with_reducible refine Bel.trans ?_ (Bel.mono (by assumption) ?_)); rotate_left; focus ((try simp) <;> omega))))⟩
              case measure => simp; omega
            · have hz : ((x[0].toNat : Int) != (y[0].toNat : Int)) = true := by rw [bne_iff_ne]; intro e; exact hh (UInt8.toNat_inj.1 (by omega))
              replace hh := Lib.hid hh
              go_wp2_with fail
              go_quiet (fail)
              go_wp2_with fail
              go_region_held3 (fun _ => True) (trivial) (first | (go_at_call 54; go_must (refine (cmpByte_any _ _ _).mono ?_; rintro e w3 ⟨rfl, rfl⟩)))
              all_goals go_wp2_with fail
              all_goals go_ret
              all_goals refine ⟨ret_int ?_, (by repeat (first | (with_reducible exact Bel.refl _ _) | (with_reducible refine Bel.drew ?_) | (with_reducible refine Bel.drewN ?_ _) | ((with_reducible refine Bel.alloc ?_ ?_ _); rotate_left; focus ((try simp) <;> omega)) | ((with_reducible refine Bel.setCell ?_ ?_ _); rotate_left; focus ((try simp) <;> omega)) | ((with_reducible refine Bel.trans ?_ (Bel.mono (by assumption) ?_)); rotate_left; focus ((try simp) <;> omega))))⟩
              all_goals rw [hr.out, s2.out, (head_get x x1).1, (head_get y y1).1, if_pos (by simpa using hh.out), (head_get x x1).2, (head_get y y1).2]
        · have x1 : 0 < x.size := by omega
          have y1 : 0 < y.size := by omega
          have x2 : (1 : Int) ≤ (x.size : Int) := by omega
          have y2 : (1 : Int) ≤ (y.size : Int) := by omega
          have x3 : 1 ≤ x.size := x1
          have y3 : 1 ≤ y.size := y1
          replace s2 := Lib.hid (s2.out (by omega))
          by_cases hh : x[0] = y[0]
          · have hz : ((x[0].toNat : Int) != (y[0].toNat : Int)) = false := by rw [hh]; simp
            replace hh := Lib.hid hh
            go_wp2_with fail
            go_quiet (fail)
            go_wp2_with fail
            go_quiet (fail)
            go_wp2_with fail
            go_roundw
            case rel => exact ⟨x.extract 1 x.size, y.extract 1 y.size, rfl, rfl, by simp; omega, by simp; omega, by rw [hr.out, s2.out, (head_get x x1).1, (head_get y y1).1, if_neg (by rw [hh.out]; simp), ext_end, ext_end, List.drop_one, List.drop_one], (by repeat (first | (with_reducible exact Bel.refl _ _) | (with_reducible refine Bel.drew ?_) | (with_reducible refine Bel.drewN ?_ _) | ((with_reducible refine Bel.alloc ?_ ?_ _); rotate_left; focus ((try simp) <;> omega)) | ((with_reducible refine Bel.setCell ?_ ?_ _); rotate_left; focus ((try simp) <;> omega)) | ((with_reducible refine Bel.trans ?_ (Bel.mono (by assumption) ?_)); rotate_left; focus ((try simp) <;> omega))))⟩
            case measure => simp; omega
          · have hz : ((x[0].toNat : Int) != (y[0].toNat : Int)) = true := by rw [bne_iff_ne]; intro e; exact hh (UInt8.toNat_inj.1 (by omega))
            replace hh := Lib.hid hh
            go_wp2_with fail
            go_quiet (fail)
            go_wp2_with fail
            go_region_held3 (fun _ => True) (trivial) (first | (go_at_call 54; go_must (refine (cmpByte_any _ _ _).mono ?_; rintro e w3 ⟨rfl, rfl⟩)))
            all_goals go_wp2_with fail
            all_goals go_ret
            all_goals refine ⟨ret_int ?_, (by repeat (first | (with_reducible exact Bel.refl _ _) | (with_reducible refine Bel.drew ?_) | (with_reducible refine Bel.drewN ?_ _) | ((with_reducible refine Bel.alloc ?_ ?_ _); rotate_left; focus ((try simp) <;> omega)) | ((with_reducible refine Bel.setCell ?_ ?_ _); rotate_left; focus ((try simp) <;> omega)) | ((with_reducible refine Bel.trans ?_ (Bel.mono (by assumption) ?_)); rotate_left; focus ((try simp) <;> omega))))⟩
            all_goals rw [hr.out, s2.out, (head_get x x1).1, (head_get y y1).1, if_pos (by simpa using hh.out), (head_get x x1).2, (head_get y y1).2]
end Go.Proofs.YtdjepnilmgembaaGreatDoor
