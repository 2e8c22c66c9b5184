/-
  ShardCovers: every test is in exactly one shard, no shard takes longer than the average and the longest test together; the example holds. No condition.
-/
import Derived.Test.YtdjepnilmgembaaGreatDoorShw14
import Derived.Test.YtdjepnilmgembaaGreatDoorBase1
import Derived.Test.YtdjepnilmgembaaGreatDoorLayTab




namespace Go.Proofs.YtdjepnilmgembaaGreatDoor.shardCovers
open Go.ChangeShapes Go.WideShapes Go.ChangeAt Go.RowKit Go.Joins
theorem own : ownKnob Tryz.prog.godebug = none := by kernel_rfl
theorem laidOut : laidOutB Tryz.prog = true := by kernel_rfl
open Go.RowKit

theorem load_one (s : Str) (ts : List Tm) : loadT [s] ts = clockT ts s := by
  unfold loadT sumT
  simp
theorem count_take {L : List SlR} {k : Nat} {x : SlR} {s : Str} (h : L[k]? = some x) : ((L.take (k + 1)).countP fun x => hasB s x.l) = ((L.take k).countP fun x => hasB s x.l) + (if hasB s x.l = true then 1 else 0) := by
  rw [List.take_add_one, h]
  show (L.take k ++ [x]).countP _ = _
  rw [List.countP_append, List.countP_singleton]
theorem sum_take {L : List SlR} {k : Nat} {x : SlR} (h : L[k]? = some x) : ((L.take (k + 1)).map fun x => x.l.length).sum = ((L.take k).map fun x => x.l.length).sum + x.l.length := by
  rw [List.take_add_one, h]
  show ((L.take k ++ [x]).map _).sum = _
  rw [List.map_append, List.sum_append]
  simp
theorem covers {ts : List Tm} {l : List Str} {N : Nat} {L : List SlR} (hE : splErr l (N : Int) = 0) (h : L.map SlR.l = shdL ts l (N : Int)) :
    L.length = N ∧ (∀ x ∈ L, x.l.length ≤ l.length) ∧ (∀ s ∈ l, (L.countP fun x => hasB s x.l) = 1) ∧ (L.map fun x => x.l.length).sum = l.length ∧ ∀ M : Int, 0 ≤ M → (∀ s ∈ l, clockT ts s ≤ M) → ∀ x ∈ L, loadT x.l ts ≤ loadT l ts / (N : Int) + M := by
  obtain ⟨n1, n2, _, _, hd⟩ := splErr_ok hE
  have hN : 0 < N := by omega
  rw [shdL_ok hE, Int.toNat_natCast] at h
  have hm : ∀ x ∈ L, x.l ∈ outT ts l N := fun x hx => by rw [← h]; exact List.mem_map_of_mem hx
  refine ⟨?_, fun x hx => ?_, fun s hs => ?_, ?_, fun M h0 hM x hx => ?_⟩
  · have hl := congrArg List.length h
    rwa [List.length_map, outT_len] at hl
  · obtain ⟨b, hb, e⟩ := List.mem_map.1 (hm x hx)
    rw [← e, (srt_perm_of (bins_nodup hN hd hb)).length_eq]
    have := (fill_small hN _ hb).1
    rwa [ord_len] at this
  · rw [← out_once (ts := ts) hN hd hs, ← h, List.countP_map]
    congr 1
  · rw [← out_sum (ts := ts) hN hd, ← h, List.map_map]
    (try rfl)
  · exact out_most hN hd hM h0 (hm x hx)
theorem sum_le : ∀ (L : List SlR) (m : Nat), (∀ x ∈ L, x.l.length ≤ m) → (L.map fun x => x.l.length).sum ≤ L.length * m
  | [], _, _ => by simp
  | x :: L, m, h => by
    have h1 := sum_le L m fun y hy => h y (List.mem_cons_of_mem _ hy)
    have h2 := h x List.mem_cons_self
    rw [List.map_cons, List.sum_cons, List.length_cons, Nat.succ_mul]
    omega
set_option maxRecDepth 100000 in
set_option maxHeartbeats 8000000 in
theorem walk (A B : Option Addr) (c d : Nat) (l : List Str) (ts : List Tm) (n : Int) (w : World) (hr : Rw sE 1 w w.heap.size A l) (hlc : l.length ≤ c) (hcm : c ≤ maxLen) (ht : Rw tmE 2 w w.heap.size B ts) (htc : ts.length ≤ d) (hdm : d ≤ maxLen) (hG : Glob w) :
    Calls Tryz.prog 6 #[.slice A l.length c, .slice B ts.length d, .int .i64 n] w fun e w' => e = .returned (.bool true) ∧ Below w.heap.size w w' := by
  have hfe0 := few_any A B c d l ts w hr (by simp only [maxLen] at hcm; omega) ht (by simp only [maxLen] at hdm; omega)
  rcases hs : fewT l ts with _ | _
  · rw [hs] at hfe0
    have hfe := Lib.hid hfe0
    clear hfe0 hr ht
    replace hG := Lib.hid hG
    replace hs := Lib.hid hs
    go_enter Tryz.func6, Tryz.ntmps6
    go_wp2_with (first | (go_at_call 8; go_must (refine hfe.out.mono ?_; rintro e w1 ⟨rfl, rfl⟩)) | (go_at_call 9; go_must (refine (lives_any _ (hG.out.keep (by repeat (first | (with_reducible exact Below.refl _ _) | (with_reducible refine Below.drew ?_) | (with_reducible refine below_drewN ?_ _) | ((with_reducible refine Below.alloc ?_ ?_ _); rotate_left; focus ((try simp) <;> omega)) | ((with_reducible refine Below.setCell ?_ ?_ _); rotate_left; focus ((try simp) <;> omega)) | ((with_reducible refine Below.trans ?_ (Below.mono (by assumption) ?_)); rotate_left; focus ((try simp) <;> omega)))))).mono ?_; rintro e w9 ⟨rfl, hb9⟩; have hz9 := hb9.size)))
    go_ret
    exact ⟨rfl, (by repeat (first | (with_reducible exact Below.refl _ _) | (with_reducible refine Below.drew ?_) | (with_reducible refine below_drewN ?_ _) | ((with_reducible refine Below.alloc ?_ ?_ _); rotate_left; focus ((try simp) <;> omega)) | ((with_reducible refine Below.setCell ?_ ?_ _); rotate_left; focus ((try simp) <;> omega)) | ((with_reducible refine Below.trans ?_ (Below.mono (by assumption) ?_)); rotate_left; focus ((try simp) <;> omega))))⟩
  rw [hs] at hfe0
  have hfe := Lib.hid hfe0
  clear hfe0
  obtain ⟨m1, m2, m3, m4⟩ := fewT_mild hs
  obtain ⟨E, hE⟩ : ∃ E, splErr l n = E := ⟨_, rfl⟩
  have hsp : Hid (∀ W, Below w.heap.size w W → Calls Tryz.prog 14 #[.slice A l.length c, .slice B ts.length d, .int .i64 n] W fun e w' => ∃ A' c' L, e = .returned (.tuple #[.slice A' L.length c', .int .i64 E]) ∧ RwS w' w'.heap.size A' L ∧ L.map SlR.l = shdL ts l n ∧ Below W.heap.size W w') := Lib.hid fun W hb => by
    have h := split_any A B c d l ts n W ((hr.below hb (Nat.le_refl _)).more hb.size) (by omega) (fun x hx => by have := m3 x hx; omega) ((ht.below hb (Nat.le_refl _)).more hb.size) (by omega) (fun x hx => by have := m4 x hx; omega) (hG.keep hb)
    rwa [hE] at h
  by_cases hE0 : E = 0
  rotate_left
  · have hEb : (E != 0) = true := by rw [bne_iff_ne]; exact hE0
    have hsp2 : Hid (∀ W, Below w.heap.size w W → Calls Tryz.prog 14 #[.slice A l.length c, .slice B ts.length d, .int .i64 n] W fun e w' => ∃ A' c', e = .returned (.tuple #[.slice A' 0 c', .int .i64 E]) ∧ Below W.heap.size W w') := Lib.hid fun W hb => (hsp.out W hb).mono fun e w' ⟨A', c', L, h1, _, h3, h4⟩ => by
      rw [shdL_no (by rw [hE]; exact hE0)] at h3
      obtain rfl := List.map_eq_nil_iff.1 h3
      exact ⟨A', c', h1, h4⟩
    clear hr ht m2 m3 m4 hsp
    replace hG := Lib.hid hG
    replace hs := Lib.hid hs
    replace hE := Lib.hid hE
    replace hE0 := Lib.hid hE0
    go_enter Tryz.func6, Tryz.ntmps6
    go_wp2_with (first
      | (go_at_call 8; go_must (refine hfe.out.mono ?_; rintro e w1 ⟨rfl, rfl⟩))
      | (go_at_call 14; go_must (refine (hsp2.out _ (Below.refl _ _)).mono ?_; rintro e w2 ⟨A2, c2, rfl, hb2⟩; have hz2 := hb2.size))
      | (go_at_call 9; go_must (refine (lives_any _ (hG.out.keep (by repeat (first | (with_reducible exact Below.refl _ _) | (with_reducible refine Below.drew ?_) | (with_reducible refine below_drewN ?_ _) | ((with_reducible refine Below.alloc ?_ ?_ _); rotate_left; focus ((try simp) <;> omega)) | ((with_reducible refine Below.setCell ?_ ?_ _); rotate_left; focus ((try simp) <;> omega)) | ((with_reducible refine Below.trans ?_ (Below.mono (by assumption) ?_)); rotate_left; focus ((try simp) <;> omega)))))).mono ?_; rintro e w9 ⟨rfl, hb9⟩; have hz9 := hb9.size)))
    go_ret
    exact ⟨rfl, (by repeat (first | (with_reducible exact Below.refl _ _) | (with_reducible refine Below.drew ?_) | (with_reducible refine below_drewN ?_ _) | ((with_reducible refine Below.alloc ?_ ?_ _); rotate_left; focus ((try simp) <;> omega)) | ((with_reducible refine Below.setCell ?_ ?_ _); rotate_left; focus ((try simp) <;> omega)) | ((with_reducible refine Below.trans ?_ (Below.mono (by assumption) ?_)); rotate_left; focus ((try simp) <;> omega))))⟩
  subst hE0
  obtain ⟨n1, n2, _, _, _⟩ := splErr_ok hE
  obtain ⟨N, rfl⟩ : ∃ N : Nat, n = (N : Int) := ⟨n.toNat, by omega⟩
  have hN0 : 0 < N := by omega
  have hN1 : N ≤ 64 := by omega
  have hNi : (0 : Int) < (N : Int) := by omega
  have hNz : ¬ (N : Int) = 0 := by omega
  clear n1 n2
  have hld : Hid (∀ (A' : Option Addr) (c' : Nat) (l' : List Str) W, Below w.heap.size w W → Rw sE 1 W W.heap.size A' l' → l'.length ≤ 1000 → Calls Tryz.prog 12 #[.slice A' l'.length c', .slice B ts.length d] W fun e w' => e = .returned (.int .i64 (loadT l' ts)) ∧ Below W.heap.size W w') := Lib.hid fun A' c' l' W hb h1 h2 => load_any A' B c' d l' ts W h1 h2 (fun s _ => by simp only [maxLen]; exact s.2) ((ht.below hb (Nat.le_refl _)).more hb.size) (by omega) (fun x hx => by have := m4 x hx; omega)
  have hcv := Lib.hid fun (L : List SlR) (h : L.map SlR.l = shdL ts l (N : Int)) => covers hE h
  have hti := Lib.hid (time_in ts)
  have hS0 : 0 ≤ loadT l ts ∧ loadT l ts ≤ 1125899906842624000 := by
    have h1 := load_take l ts 1000 (Nat.le_refl _)
    rw [List.take_of_length_le (by omega)] at h1
    exact h1
  have hSx : Hid (∀ l' : List Str, l'.length ≤ 1000 → 0 ≤ loadT l' ts ∧ loadT l' ts ≤ 1125899906842624000) := Lib.hid fun l' hl' => by
    have h1 := load_take l' ts 1000 (Nat.le_refl _)
    rw [List.take_of_length_le hl'] at h1
    exact h1
  have hrw := Lib.hid hr
  clear hr ht m2 m3 m4
  replace hG := Lib.hid hG
  replace hs := Lib.hid hs
  replace hE := Lib.hid hE
  go_enter Tryz.func6, Tryz.ntmps6
  go_upto_region 6 with (first | (go_at_call 8; go_must (refine hfe.out.mono ?_; rintro e w1 ⟨rfl, rfl⟩)) | (go_at_call 14; go_must (refine (hsp.out _ (Below.refl _ _)).mono ?_; rintro e w2 ⟨A2, c2, L, rfl, hr2, h2, hb2⟩; have hz2 := hb2.size; replace hr2 := Lib.hid hr2; replace h2 := Lib.hid h2)))
  obtain ⟨v1, v2, v3, v4, v5⟩ := hcv.out L h2.out
  have hLa := Nat.le_of_eq v1
  have hLb := Nat.le_of_eq v1.symm
  obtain ⟨g2, o2, rfl, hg2, hq2⟩ := hr2.out.row (by omega)
  have hcell : Hid (∀ k x, L[k]? = some x → w2.cell? ⟨g2, o2 + k, none⟩ = some (.slice x.A x.l.length x.c)) := Lib.hid fun k x hx => by
    have := hq2 k x hx 0 _ rfl
    rwa [Nat.mul_one, Nat.add_zero] at this
  have hlab : Hid (∀ x, x ∈ L → Rw sE 1 w2 w2.heap.size x.A x.l ∧ x.l.length ≤ 1000) := Lib.hid fun x hx => ⟨hr2.out.labs x hx, by have := v2 x hx; omega⟩
  have hsum := Lib.hid (sum_le L 60 fun x hx => by have := v2 x hx; omega)
  replace v1 := Lib.hid v1
  replace v2 := Lib.hid v2
  replace v3 := Lib.hid v3
  replace v4 := Lib.hid v4
  replace v5 := Lib.hid v5
  clear hq2
  have hb02 : Hid (Below w.heap.size w w2) := Lib.hid hb2
  have hLN : (L.length : Int) = (N : Int) := by rw [v1.out]
  have hLNb : ((L.length : Int) != (N : Int)) = false := by rw [hLN]; simp
  go_wp2_with fail
  go_loopw [9, 10] (fun vm vi wr => ∃ (k : Nat) (M : Int), vm = .int .i64 M ∧ vi = .int .i64 (k : Int) ∧ k ≤ l.length ∧ 0 ≤ M ∧ M ≤ 1125899906842624 ∧ (∀ s ∈ l.take k, clockT ts s ≤ M) ∧ Below w2.heap.size w2 wr) (fun _ vi _ => l.length - (intOf vi).toNat)
  case atStart => exact ⟨0, 0, rfl, rfl, Nat.zero_le _, by omega, by omega, fun s h => by simp at h, Below.refl _ _⟩
  case round =>
    obtain ⟨k, M, rfl, rfl, hk, hM0, hM1, hM, hbw⟩ := hrel
    have hz := hbw.size
    have hb0r : Hid (Below w.heap.size w wr) := Lib.hid (hb02.out.trans (hbw.mono (by omega)))
    by_cases hkl : k < l.length
    · obtain ⟨s, hs2⟩ := get_some hkl
      obtain ⟨g, o, rfl, hg, hq⟩ := hrw.out (by omega)
      have q0 := hq k s hs2 0 (.string s.1) rfl
      rw [Nat.mul_one, Nat.add_zero] at q0
      have hone : Hid (∀ (c' : Nat) W, Below wr.heap.size wr W → Calls Tryz.prog 12 #[.slice (some ⟨g, o + k, none⟩) 1 c', .slice B ts.length d] W fun e w' => e = .returned (.int .i64 (clockT ts s)) ∧ Below W.heap.size W w') := Lib.hid fun c' W hb => by
        have hbb := hb0r.out.trans (hb.mono hb0r.out.size)
        have h := hld.out (some ⟨g, o + k, none⟩) c' [s] W hbb (fun _ => ⟨g, o + k, rfl, by have := hbb.size; omega, fun i x hx j u hu => by
          rcases i with _ | i
          · obtain rfl : s = x := by simpa using hx
            have hj : j = 0 := by have := (List.getElem?_eq_some_iff.1 hu).1; simp [sE] at this; exact this
            subst hj
            obtain rfl : Value.string s.1 = u := by simpa [sE] using hu
            simp only [Nat.zero_mul, Nat.add_zero]
            exact (hbb.cell (p := ⟨g, o + k, none⟩) hg).trans q0
          · simp at hx⟩) (by simp)
        rw [load_one] at h
        exact h
      have q0r := (hb0r.out.cell (p := ⟨g, o + k, none⟩) hg).trans q0
      obtain ⟨t1, t2⟩ := hti.out s
      have hMn : Hid (∀ y ∈ l.take (k + 1), clockT ts y ≤ max M (clockT ts s)) := Lib.hid fun y hy => by
        rw [List.take_add_one, hs2] at hy
        rcases List.mem_append.1 hy with hy | hy
        · have := hM y hy; omega
        · obtain rfl : y = s := by simpa using hy
          omega
      have hcount : Hid ((L.countP fun x => hasB s x.l) = 1) := Lib.hid (v3.out s (List.mem_of_getElem? hs2))
      have hcle : Hid (∀ j, ((L.take j).countP fun x => hasB s x.l) ≤ j) := Lib.hid fun j => by
        have h1 := List.countP_le_length (p := fun x : SlR => hasB s x.l) (l := L.take j)
        rw [List.length_take] at h1
        omega
      have hcn := Lib.hid fun (j : Nat) (x : SlR) (h : L[j]? = some x) => count_take (s := s) h
      obtain ⟨X, hX⟩ : ∃ X, clockT ts s = X := ⟨_, rfl⟩
      rw [hX] at hone t1 t2 hMn
      replace hX := Lib.hid hX
      replace hM := Lib.hid hM
      replace hs2 := Lib.hid hs2
      clear hq q0
      have i0 : (0 : Int) ≤ (k : Int) := by omega
      have i1 : (k : Int) < (l.length : Int) := by omega
      have i2 : (k : Int) + 1 ≤ (c : Int) := by omega
      have i3 : (0 : Int) ≤ (k : Int) + 1 := by omega
      have i4 : (k : Int) ≤ (k : Int) + 1 := by omega
      have hcne : ¬ c = k := by omega
      go_wp2_with (go_at_call 12; go_must (refine (hone.out _ _ (Below.refl _ _)).mono ?_; rintro e w3 ⟨rfl, hb3⟩; have hz3 := hb3.size))
      obtain ⟨M2, hM2⟩ : ∃ M2, max M X = M2 := ⟨_, rfl⟩
      rw [hM2] at hMn ⊢
      have hM20 : 0 ≤ M2 := by omega
      have hM21 : M2 ≤ 1125899906842624 := by omega
      replace hM2 := Lib.hid hM2
      have q3 := (hb3.cell (p := ⟨g, o + k, none⟩) (by show g < _; have := hb0r.out.size; omega)).trans q0r
      clear q0r
      have hgr : g < w3.heap.size := by have := hb0r.out.size; omega
      have hb23 : Below w2.heap.size w2 w3 := hbw.trans (hb3.mono hz)
      go_loopw [11, 12] (fun vn vj wr => ∃ j : Nat, vn = .int .i64 ((((L.take j).countP fun x => hasB s x.l) : Nat) : Int) ∧ vj = .int .i64 (j : Int) ∧ j ≤ N ∧ Below w3.heap.size w3 wr) (fun _ vj _ => N - (intOf vj).toNat)
      case atStart => exact ⟨0, rfl, rfl, Nat.zero_le _, Below.refl _ _⟩
      case round =>
        obtain ⟨j, rfl, rfl, hj, hb4⟩ := hrel
        have hz4 := hb4.size
        by_cases hjn : j < N
        · obtain ⟨x, hx⟩ := get_some (show j < L.length by omega)
          have hb24 : Below w2.heap.size w2 wr := hb23.trans (hb4.mono (by have := hb23.size; omega))
          have c0 := (hb24.cell (p := ⟨g2, o2 + j, none⟩) hg2).trans (hcell.out j x hx)
          have c1 := (hb4.cell (p := ⟨g, o + k, none⟩) hgr).trans q3
          have hha : Hid (∀ W, Below wr.heap.size wr W → Calls Tryz.prog 20 #[.slice x.A x.l.length x.c, .string s.1] W fun e w' => e = .returned (.bool (hasB s x.l)) ∧ Below W.heap.size W w') := Lib.hid fun W hb => by
            have hbb := hb24.trans (hb.mono hb24.size)
            obtain ⟨r1, r2⟩ := hlab.out x (List.mem_of_getElem? hx)
            exact (rhas_any x.A x.c x.l s W ((r1.below hbb (Nat.le_refl _)).more hbb.size) (by omega)).mono fun _ _ ⟨h1, h2⟩ => ⟨h1, h2 ▸ Below.refl _ _⟩
          have hnj := hcn.out j x hx
          have hcj := hcle.out j
          obtain ⟨K, hK⟩ : ∃ K, ((L.take j).countP fun x => hasB s x.l) = K := ⟨_, rfl⟩
          rw [hK] at hnj hcj ⊢
          rcases hH : hasB s x.l with _ | _
          · rw [hH] at hha hnj
            rw [if_neg (by decide), Nat.add_zero] at hnj
            have hnj2 := Lib.hid hnj
            clear hnj
            replace hH := Lib.hid hH
            replace hK := Lib.hid hK
            replace hx := Lib.hid hx
            replace c0 := fun d os => cell_regrown c0 d os
            replace c1 := fun d os => cell_regrown c1 d os
            have j0 : (0 : Int) ≤ (j : Int) := by omega
            have j1 : (j : Int) < (L.length : Int) := by omega
            have j2 : (j : Int) < (N : Int) := by omega
            go_upto_region 17 with fail
            refine wp_region_quiet_below (by kernel_rfl) (by kernel_rfl) ?_
            repeat (go_big_quiet_step ((go_at_call 20; exact Calls.regrown_of (hha.out _ (below_regrown _ _ _)))))
            refine wpQuiet_nil ?_
            intro w5 hw5
            have hb5 := below_of_regrown hw5
            clear hw5
            go_wp2_with fail
            go_roundw
            case rel => exact ⟨j + 1, by rw [hnj2.out]; rfl, by go_num, hjn, hb4.trans (hb5.mono hz4)⟩
            case measure => simp [intOf]; omega
          · rw [hH] at hha hnj
            rw [if_pos rfl] at hnj
            have hnj2 := Lib.hid hnj
            clear hnj
            replace hH := Lib.hid hH
            replace hK := Lib.hid hK
            replace hx := Lib.hid hx
            replace c0 := fun d os => cell_regrown c0 d os
            replace c1 := fun d os => cell_regrown c1 d os
            have j0 : (0 : Int) ≤ (j : Int) := by omega
            have j1 : (j : Int) < (L.length : Int) := by omega
            have j2 : (j : Int) < (N : Int) := by omega
            go_upto_region 17 with fail
            refine wp_region_quiet_below (by kernel_rfl) (by kernel_rfl) ?_
            repeat (go_big_quiet_step ((go_at_call 20; exact Calls.regrown_of (hha.out _ (below_regrown _ _ _)))))
            refine wpQuiet_nil ?_
            intro w5 hw5
            have hb5 := below_of_regrown hw5
            clear hw5
            go_wp2_with fail
            go_roundw
            case rel => exact ⟨j + 1, by rw [hnj2.out]; go_num, by go_num, hjn, hb4.trans (hb5.mono hz4)⟩
            case measure => simp [intOf]; omega
        · have j2 : ¬ (j : Int) < (N : Int) := by omega
          have hL2 : L.take j = L := List.take_of_length_le (by omega)
          rw [hL2, hcount.out]
          replace hL2 := Lib.hid hL2
          go_wp2_with fail
          go_roundw
          case rel => exact ⟨k + 1, M2, rfl, by go_num, hkl, hM20, hM21, hMn.out, hb23.trans (hb4.mono (by have := hb23.size; omega))⟩
          case measure => simp [intOf]; omega
    · have i1 : ¬ (k : Int) < (l.length : Int) := by omega
      have hkk : k = l.length := by omega
      rw [List.take_of_length_le (by omega)] at hM
      have hmost := Lib.hid (v5.out M hM0 hM)
      replace hM := Lib.hid hM
      obtain ⟨S, hS⟩ : ∃ S, loadT l ts = S := ⟨_, rfl⟩
      rw [hS] at hS0 hmost
      have hQ0 : 0 ≤ S / (N : Int) := Int.ediv_nonneg hS0.1 (by omega)
      have hQ1 : S / (N : Int) ≤ S := Int.ediv_le_self _ hS0.1
      have hQt : S.tdiv (N : Int) = S / (N : Int) := Int.tdiv_eq_ediv_of_nonneg hS0.1
      obtain ⟨Q, hQ⟩ : ∃ Q, S / (N : Int) = Q := ⟨_, rfl⟩
      rw [hQ] at hQ0 hQ1 hQt hmost
      have hQ2 : Q ≤ 1125899906842624000 := by omega
      have hlt : Hid (∀ W, Below wr.heap.size wr W → Calls Tryz.prog 12 #[.slice A l.length c, .slice B ts.length d] W fun e w' => e = .returned (.int .i64 S) ∧ Below W.heap.size W w') := Lib.hid fun W hb => by
        have hbb := hb0r.out.trans (hb.mono hb0r.out.size)
        have h := hld.out A c l W hbb ((hrw.out.below hbb (Nat.le_refl _)).more hbb.size) (by omega)
        rwa [hS] at h
      replace hS := Lib.hid hS
      go_wp2_with fail
      obtain ⟨w5, hw5⟩ : ∃ w5, wr = w5 := ⟨_, rfl⟩
      rw [hw5] at hbw hb0r hlt hz ⊢
      clear hw5
      go_loopw [13, 14] (fun vs vj wr => ∃ j : Nat, vs = .int .i64 ((((L.take j).map fun x => x.l.length).sum : Nat) : Int) ∧ vj = .int .i64 (j : Int) ∧ j ≤ N ∧ Below w5.heap.size w5 wr) (fun _ vj _ => N - (intOf vj).toNat)
      case atStart => exact ⟨0, rfl, rfl, Nat.zero_le _, Below.refl _ _⟩
      case round =>
        obtain ⟨j, rfl, rfl, hj, hb4⟩ := hrel
        have hz4 := hb4.size
        by_cases hjn : j < N
        · obtain ⟨x, hx⟩ := get_some (show j < L.length by omega)
          have hb24 : Below w2.heap.size w2 wr := hbw.trans (hb4.mono hz)
          have c0 := (hb24.cell (p := ⟨g2, o2 + j, none⟩) hg2).trans (hcell.out j x hx)
          have hnj := sum_take hx
          obtain ⟨r1, r2⟩ := hlab.out x (List.mem_of_getElem? hx)
          obtain ⟨x1, x2⟩ := hSx.out x.l r2
          have hxm := hmost.out x (List.mem_of_getElem? hx)
          have hsj : ((L.take j).map fun x => x.l.length).sum ≤ 100000 := by
            have h1 := sum_le (L.take j) 1000 fun y hy => (hlab.out y (List.mem_of_mem_take hy)).2
            rw [List.length_take] at h1
            have h2 : min j L.length * 1000 ≤ 64 * 1000 := Nat.mul_le_mul_right _ (by omega)
            omega
          have hlx0 : ∀ W, Below wr.heap.size wr W → Calls Tryz.prog 12 #[.slice x.A x.l.length x.c, .slice B ts.length d] W fun e w' => e = .returned (.int .i64 (loadT x.l ts)) ∧ Below W.heap.size W w' := fun W hb => by
            have hbb := hb24.trans (hb.mono hb24.size)
            exact hld.out x.A x.c x.l W (hb02.out.trans (hbb.mono hb02.out.size)) ((r1.below hbb (Nat.le_refl _)).more hbb.size) r2
          obtain ⟨X, hX⟩ : ∃ X, loadT x.l ts = X := ⟨_, rfl⟩
          rw [hX] at hlx0 x1 x2 hxm
          have hlx := Lib.hid hlx0
          clear hlx0 r1
          obtain ⟨K, hK⟩ : ∃ K, ((L.take j).map fun x => x.l.length).sum = K := ⟨_, rfl⟩
          rw [hK] at hnj hsj ⊢
          have hnj2 := Lib.hid hnj
          have hgt : ¬ Q + M < X := by omega
          clear hnj
          replace hb24 := Lib.hid hb24
          replace hX := Lib.hid hX
          replace hK := Lib.hid hK
          replace hx := Lib.hid hx
          have j0 : (0 : Int) ≤ (j : Int) := by omega
          have j1 : (j : Int) < (L.length : Int) := by omega
          have j2 : (j : Int) < (N : Int) := by omega
          go_wp2_with (first
            | (go_at_call 12; go_must (first | (with_reducible refine (hlx.out _ (Below.refl _ _)).mono ?_; rintro e w6 ⟨rfl, hb6⟩; have hz6 := hb6.size) | (with_reducible refine (hlt.out _ (show Below w5.heap.size w5 _ from (by repeat (first | (with_reducible exact Below.refl _ _) | (with_reducible refine Below.drew ?_) | (with_reducible refine below_drewN ?_ _) | ((with_reducible refine Below.alloc ?_ ?_ _); rotate_left; focus ((try simp) <;> omega)) | ((with_reducible refine Below.setCell ?_ ?_ _); rotate_left; focus ((try simp) <;> omega)) | ((with_reducible refine Below.trans ?_ (Below.mono (by assumption) ?_)); rotate_left; focus ((try simp) <;> omega)))))).mono ?_; rintro e w7 ⟨rfl, hb7⟩; have hz7 := hb7.size))))
          go_roundw
          case rel => exact ⟨j + 1, by rw [hnj2.out]; go_num, by go_num, hjn, (by repeat (first | (with_reducible exact Below.refl _ _) | (with_reducible refine Below.drew ?_) | (with_reducible refine below_drewN ?_ _) | ((with_reducible refine Below.alloc ?_ ?_ _); rotate_left; focus ((try simp) <;> omega)) | ((with_reducible refine Below.setCell ?_ ?_ _); rotate_left; focus ((try simp) <;> omega)) | ((with_reducible refine Below.trans ?_ (Below.mono (by assumption) ?_)); rotate_left; focus ((try simp) <;> omega))))⟩
          case measure => simp [intOf]; omega
        · have j2 : ¬ (j : Int) < (N : Int) := by omega
          have hL2 : L.take j = L := List.take_of_length_le (by omega)
          rw [hL2, v4.out]
          replace hL2 := Lib.hid hL2
          go_wp2_with (go_at_call 9; go_must (refine (lives_any _ (hG.out.keep (hb0r.out.trans (Below.mono (show Below w5.heap.size w5 _ from (by repeat (first | (with_reducible exact Below.refl _ _) | (with_reducible refine Below.drew ?_) | (with_reducible refine below_drewN ?_ _) | ((with_reducible refine Below.alloc ?_ ?_ _); rotate_left; focus ((try simp) <;> omega)) | ((with_reducible refine Below.setCell ?_ ?_ _); rotate_left; focus ((try simp) <;> omega)) | ((with_reducible refine Below.trans ?_ (Below.mono (by assumption) ?_)); rotate_left; focus ((try simp) <;> omega))))) (by have := hb0r.out.size; omega))))).mono ?_; rintro e w9 ⟨rfl, hb9⟩))
          go_ret
          exact ⟨rfl, hb0r.out.trans (Below.mono (show Below w5.heap.size w5 _ from (by repeat (first | (with_reducible exact Below.refl _ _) | (with_reducible refine Below.drew ?_) | (with_reducible refine below_drewN ?_ _) | ((with_reducible refine Below.alloc ?_ ?_ _); rotate_left; focus ((try simp) <;> omega)) | ((with_reducible refine Below.setCell ?_ ?_ _); rotate_left; focus ((try simp) <;> omega)) | ((with_reducible refine Below.trans ?_ (Below.mono (by assumption) ?_)); rotate_left; focus ((try simp) <;> omega))))) (by have := hb0r.out.size; omega))⟩
/-- A world for the witness: the settled one, the listed tables holding what their initialisers lay. -/
noncomputable def laidWorld (os : Os) : World :=
  { World.holding Tryz.prog os ⟨#[], #[], []⟩ with heap := layAll Tryz.prog Rows.shardCoversRow.laid (World.holding Tryz.prog os ⟨#[], #[], []⟩).heap }
theorem laid_met (os : Os) : laidMet Tryz.prog Rows.shardCoversRow.laid ((laidWorld os).forCall (fun _ _ => 0) ⟨#[], #[.slice none 0 0, .slice none 0 0, .int .i64 0], []⟩).memory :=
  laidMet_of_run' 8 (by kernel_rfl) (by kernel_rfl)
theorem reads (os : Os) {H : Type} (enc : TypeId × Value → H) : ∃ places, DataW.whole enc Tryz.prog ((laidWorld os).forCall (fun _ _ => 0) ⟨#[], #[.slice none 0 0, .slice none 0 0, .int .i64 0], []⟩).memory Tryz.f6.params.toList Rows.shardCoversSpec.vars false (#[.slice none 0 0, .slice none 0 0, .int .i64 0] : Array Value).toList 8 = some ([.nil, .nil, .lit (.int .i64 0)], [], places) :=
  ⟨[], by kernel_rfl⟩

set_option maxRecDepth 100000 in
theorem contract (H : Type) (enc : TypeId × Value → H) (W : World) (base : Nat) (args : Array Value) (ds gs : List (DataW H)) (before : List MemPlace)
    (hval : ∀ (j : Nat) t v, Tryz.f6.params[j]? = some t → args[j]? = some v → Value.okWide Tryz.prog W .any base t v)
    (hW : DataW.Whole enc Tryz.prog Tryz.f6.params.toList Rows.shardCoversSpec.vars false W args.toList ds gs before) (hsh : W.ShapedOpen Tryz.prog) :
    Calls Tryz.prog 6 args W fun e W' => ∃ v, e = .returned v ∧ Rows.shardCoversSpec.post enc Tryz.prog Tryz.f6 false true false false W args v W' := by
  have hG : Glob W := cell_of_shapedOpen_int (P := Tryz.prog) (g := 0) (t := 3) (zero := #[.int .i64 0]) hsh (of_decide_eq_true (by kernel_rfl)) (by kernel_rfl) rfl (by kernel_rfl) (by kernel_rfl) Tryz.underlying3
  have hW' := hW
  obtain ⟨p, q, hA0, hV, rfl, hfz, hnd⟩ := hW
  have hA : DataW.TrodAll enc Tryz.prog W 0 (fun _ => true) true Tryz.f6.params.toList args.toList ds p := hA0
  have hA1 := hA
  rw [Tryz.params6] at hA hval
  obtain ⟨rfl, rfl⟩ := trodVars_none hV
  simp only [List.append_nil] at hW'
  have hcall : Calls Tryz.prog 6 args W fun e w' => e = .returned (.bool true) ∧ Below W.heap.size W w' := by
    clear hA0 hV hfz hnd
    obtain ⟨v0, vs0, d0, ds0, p0, q0, hargs, rfl, rfl, h0, r0⟩ := trodAll_cons hA
    obtain ⟨v1, vs1, d1, ds1, p1, q1, hargs1, rfl, rfl, h1, r1⟩ := trodAll_cons r0
    obtain ⟨v2, vs2, d2, ds2, p2, q2, rfl, rfl, rfl, h2, r2⟩ := trodAll_cons r1
    obtain ⟨rfl, rfl, rfl⟩ := trodAll_nil r2
    obtain rfl : args = #[v0, v1, v2] := by cases args; simp_all
    obtain ⟨A, l, c, rfl, hlc, hcm, hrow⟩ := open_rows (α := Str) (E := sE) sE_len (by omega) Tryz.underlying22 (by kernel_rfl) (fun fuel cs x h => leaf_string Tryz.underlying9 h) (hval 0 22 v0 rfl rfl) h0
    obtain ⟨B, ts, d, rfl, htc, htm, htrow⟩ := open_rows (α := Tm) (E := tmE) tmE_len (by omega) Tryz.underlying23 (by kernel_rfl) (fun fuel cs x h => tmE_of fuel cs x h) (hval 1 23 v1 rfl rfl) h1
    obtain ⟨z, rfl, rfl, rfl, wz⟩ := open_int Tryz.underlying3 (hval 2 3 v2 rfl rfl) h2
    exact walk A B c d l ts z W hrow hlc hcm htrow htc htm hG
  have hds : ds.length = 3 := (trodAll_length hA).1
  refine hcall.mono fun e W' ⟨he, hb⟩ => ?_
  subst he
  refine ⟨_, rfl, law_post hW' rfl hA1 (by kernel_rfl) laidOut Tryz.underlying4 (by kernel_rfl) ?_ hb⟩
  match ds, hds with
  | [_, _, _], _ => rfl

set_option maxRecDepth 100000 in
theorem lifted (os : Os) (started : os.Started) (H : Type) (enc : TypeId × Value → H) (F : Stop.Interp) :
    ReturnsInHanded {} Tryz.checked os 6 .any ((OpenSpec.ofChange Rows.shardCoversSpec).preRow enc Tryz.prog Tryz.f6 Rows.shardCoversRow.domain false Rows.shardCoversRow.laid) (((OpenSpec.ofChange Rows.shardCoversSpec).at F).post enc Tryz.prog Tryz.f6 false true false false) := by
  obtain ⟨places, hx⟩ := reads os enc
  refine returnsInHanded_of_row (C := Tryz.checked) (s := OpenSpec.ofChange Rows.shardCoversSpec) own started (by kernel_rfl) Tryz.func6
    (witness_row_at (enc := enc) (C := Tryz.checked) false (laidWorld os) #[.slice none 0 0, .slice none 0 0, .int .i64 0] rfl (by kernel_rfl) (by kernel_rfl) (by kernel_rfl)
      (OpenSpec.preRow_of_cond 8 hx (by kernel_rfl) (fun k hk => by cases hk) (by kernel_rfl) (laid_met os))) ?_
  intro W base args ds gs before hval hW _ _ _ _ hsh _
  exact contract H enc W base args ds gs before hval hW hsh

theorem said : Rows.ShardCoversSaid :=
  OpenClaim.holds_of_cond 6 Tryz.f6 rfl rfl rfl rfl rfl rfl rfl ⟨rfl, rfl, rfl, rfl, rfl⟩ rfl rfl rfl rfl rfl (by kernel_rfl) Tryz.func6 (by kernel_rfl)
    (of_decide_eq_true (by kernel_rfl)) (by unfold Func.isWrapper; first | (rw [if_pos (by decide +kernel)]; kernel_rfl) | (rw [if_neg (by decide +kernel)]; exact ⟨rfl, rfl⟩))
    (fun os started H enc _ F => by rw [OpenClaim.pre_eq_preRow]; exact lifted os started H enc F)

theorem plain (f : FuncId) (fn : Func) (hf : Tryz.pinned.checked.prog.funcNamed Rows.shardCoversRow.func = some f) (hfn : Tryz.pinned.checked.prog.funcs[f]? = some fn) :
    false = Tryz.pinned.checked.prog.looks [] ∧ ∀ (j : Nat) t, fn.params[j]? = some t → Tryz.pinned.checked.prog.wantsStandIn t = false := by
  obtain rfl : f = 6 := Option.some.inj ((show Tryz.prog.funcNamed Rows.shardCoversRow.func = some 6 by kernel_rfl).symm.trans hf) |>.symm
  obtain rfl : fn = Tryz.f6 := (Option.some.inj (Tryz.func6.symm.trans hfn)).symm
  refine ⟨by kernel_rfl, fun j t ht => ?_⟩
  have hall : (Tryz.f6.params.toList.all fun t => !(Tryz.pinned.checked.prog.wantsStandIn t)) = true := by kernel_rfl
  have hm : t ∈ Tryz.f6.params.toList := Array.mem_toList_iff.2 (Array.mem_of_getElem? ht)
  simpa using List.all_eq_true.1 hall t hm

theorem proved : Rows.ShardCoversCardSaid :=
  Claim7.holds_tied_plain_at .later [] _ _ _ _ said (fun _ h => by cases h) (by kernel_rfl) (fun _ h => by cases h) shardCovers_row_tie rfl ⟨rfl, rfl⟩ (by kernel_rfl) rfl plain (by kernel_rfl)
#print axioms proved
end Go.Proofs.YtdjepnilmgembaaGreatDoor.shardCovers
