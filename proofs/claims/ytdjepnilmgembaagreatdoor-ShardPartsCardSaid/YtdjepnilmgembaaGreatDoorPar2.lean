/-
  Paths: the parts of a path, by the reference.
-/
import Derived.Test.YtdjepnilmgembaaGreatDoorComm0


namespace Go.Proofs.YtdjepnilmgembaaGreatDoor
open Go.RowKit

theorem str_info : (Tryz.prog.info? 9).map (fun i => (i.zero, i.size, i.bytes)) = some (some (Value.string ByteArray.empty), 1, 16) := by kernel_rfl
/-- What stands between the slashes up to a place. -/
structure CutAt (s : Str) (out : List Str) (a i : Nat) : Prop where
  now : i ≤ s.1.size → parts s = out ++ (splL (s.1.data.toList.drop a)).map mkS
  fin : s.1.size < i → parts s = out
  le : a ≤ i
  ile : i ≤ s.1.size + 1
  few : out.length ≤ i
  no : ∀ j, a ≤ j → j < i → s.1.data.toList[j]? ≠ some 47
theorem CutAt.start (s : Str) : CutAt s [] 0 0 := ⟨fun _ => by unfold parts; simp, fun h => absurd h (by omega), Nat.le_refl _, Nat.zero_le _, Nat.le_refl _, fun j _ h => absurd h (by omega)⟩
theorem piece (s : Str) {a i : Nat} (_h1 : a ≤ i) (h2 : i ≤ s.1.size) : s.1.extract a i = (mkS ((s.1.data.toList.drop a).take (i - a))).1 := by
  have hl : ((s.1.data.toList.drop a).take (i - a)).length ≤ 9223372036854775807 := by
    rw [List.length_take, List.length_drop]
    have := s.2
    have e : s.1.data.toList.length = s.1.size := by rw [Array.length_toList]; rfl
    omega
  rw [mkS_bytes hl]
  have e : (s.1.extract a i).data.toList = (s.1.data.toList.drop a).take (i - a) := by
    have := ext_toList s.1 a i
    rwa [Lib.toList_data, Lib.toList_data] at this
  rw [← e]
theorem CutAt.skip {s : Str} {out : List Str} {a i : Nat} (h : CutAt s out a i) (hi : i < s.1.size) (hc : s.1.data.toList[i]? ≠ some 47) : CutAt s out a (i + 1) :=
  ⟨fun _ => h.now (by omega), fun h2 => absurd h2 (by omega), by have := h.le; omega, by omega, by have := h.few; omega, fun j h1 h2 => by
    by_cases e : j = i
    · subst e; exact hc
    · exact h.no j h1 (by omega)⟩
theorem CutAt.cut {s : Str} {out : List Str} {a i : Nat} (h : CutAt s out a i) (hi : i < s.1.size) (hc : s.1.data.toList[i]? = some 47) : CutAt s (out ++ [mkS ((s.1.data.toList.drop a).take (i - a))]) (i + 1) (i + 1) := by
  have hle := h.le
  refine ⟨fun _ => ?_, fun h2 => absurd h2 (by omega), Nat.le_refl _, by omega, by have := h.few; simp; omega, fun j h1 h2 => absurd h2 (by omega)⟩
  have h1 := splL_hit (l := s.1.data.toList.drop a) (n := i - a) (fun j hj => by rw [List.getElem?_drop]; exact h.no (a + j) (by omega) (by omega)) (by rw [List.getElem?_drop, show a + (i - a) = i by omega]; exact hc)
  rw [h.now (by omega), h1, List.map_cons, List.drop_drop, show a + (i - a + 1) = i + 1 by omega]
  simp
theorem CutAt.last {s : Str} {out : List Str} {a i : Nat} (h : CutAt s out a i) (hi : i = s.1.size) : CutAt s (out ++ [mkS ((s.1.data.toList.drop a).take (i - a))]) (i + 1) (i + 1) := by
  have hle := h.le
  have e : s.1.data.toList.length = s.1.size := by rw [Array.length_toList]; rfl
  refine ⟨fun h2 => absurd h2 (by omega), fun _ => ?_, Nat.le_refl _, by omega, by have := h.few; simp; omega, fun j h1 h2 => absurd h2 (by omega)⟩
  have h1 := splL_end (l := s.1.data.toList.drop a) (fun j hj => by rw [List.length_drop] at hj; rw [List.getElem?_drop]; exact h.no (a + j) (by omega) (by omega))
  rw [h.now (by omega), h1, List.take_of_length_le (by rw [List.length_drop]; omega)]
  simp
theorem byte_eq {s : Str} {i : Nat} (hi : i < s.1.size) : s.1.data.toList[i]? = some s.1[i] := by
  have := toList_get s.1 i hi
  rwa [Lib.toList_data] at this
set_option maxRecDepth 100000 in
set_option maxHeartbeats 4000000 in
theorem rsplit_any (s : Str) (w : World) (hs : s.1.size ≤ 4294967281) :
    Calls Tryz.prog 106 #[.string s.1] w fun e w' => ∃ A c, e = .returned (.slice A (parts s).length c) ∧ Rw sE 1 w' w'.heap.size A (parts s) ∧ (parts s).length ≤ c ∧ Below w.heap.size w w' := by
  obtain ⟨inf, hi0, iz0, iz1, iz2⟩ := info_three str_info
  go_enter Tryz.func106, Tryz.ntmps106
  go_wp2_with fail
  go_loopw [3, 4, 5] (fun vo va vi wr => ∃ (a i : Nat) (out : List Str), va = .int .i64 (a : Int) ∧ vi = .int .i64 (i : Int) ∧ CutAt s out a i ∧ Own sE 1 9 wr w.heap.size vo out ∧ Below w.heap.size w wr) (fun _ _ vi _ => s.1.size + 1 - (intOf vi).toNat)
  case atStart => exact ⟨0, 0, [], rfl, rfl, CutAt.start s, Own.nil _ _ _, Below.refl _ _⟩
  case round =>
    obtain ⟨a, i, out, rfl, rfl, hcut, hown, hbw⟩ := hrel
    have hz := hbw.size
    have hlow := hown.lt
    have hle := hcut.le
    have hile := hcut.ile
    have hfew := hcut.few
    have hci := Lib.hid hcut
    clear hcut
    have a0 : (0 : Int) ≤ (a : Int) := by omega
    have ai : (a : Int) ≤ (i : Int) := by omega
    by_cases hiz : i ≤ s.1.size
    · have i0 : (0 : Int) ≤ (i : Int) := by omega
      have i1 : (i : Int) ≤ (s.1.size : Int) := by omega
      obtain ⟨pc, hpc⟩ : ∃ pc, mkS ((s.1.data.toList.drop a).take (i - a)) = pc := ⟨_, rfl⟩
      have hpe : s.1.extract a i = pc.1 := by rw [← hpc]; exact piece s hle hiz
      by_cases hie : i = s.1.size
      · have i2 : ((i : Int) == (s.1.size : Int)) = true := by rw [beq_iff_eq]; omega
        have hnx : Hid (CutAt s (out ++ [pc]) (i + 1) (i + 1)) := Lib.hid (by rw [← hpc]; exact hci.out.last hie)
        replace hpc := Lib.hid hpc
        replace hie := Lib.hid hie
        go_wp2_with (first
          | (at_builtin
             refine wpList_append_rw _ rfl (.tmp 22) (.tmp 27) _ rfl sE_len sE_one w.heap.size 9 inf _ 16 Tryz.underlying22 hi0 iz0 iz1 iz2 rfl (by omega) u3 out rfl (hown.alloc _) _ (some ⟨wr.heap.size, 0, none⟩) 1 1 [pc] rfl rfl ((Own.lit (enc := sE) (l := [pc]) (base := 0) #[.string pc.1] (Nat.zero_le _) (by simp [maxLen]) (by simp [sE]) sE_len).reads sE_len) ?_ ?_ ?_ ?_
             · (try simp [maxLen]) <;> omega
             · (try simp) <;> omega
             · (try simp) <;> omega
             intro v4 w4 hown4 hg4 hat4
             have hz4 := hg4.size
             simp at hz4
             have hbw4 : Below w.heap.size w w4 := (hbw.alloc (by omega) _).grown hg4 (by simp; omega) (fun g hg => by have := (hlow g hg).1; omega)))
        go_roundw
        case measure => simp [intOf]; omega
        case rel => exact ⟨i + 1, i + 1, out ++ [pc], by go_num, by go_num, hnx.out, hown4, hbw4⟩
      · have i2 : ((i : Int) == (s.1.size : Int)) = false := by rw [beq_eq_false_iff_ne]; omega
        have i3 : (i : Int) < (s.1.size : Int) := by omega
        have i4 : i < s.1.size := by omega
        have hby := byte_eq i4
        by_cases hc : s.1[i] = 47
        · have hcz : ((s.1[i].toNat : Int) == 47) = true := by rw [hc]; decide
          have hnx : Hid (CutAt s (out ++ [pc]) (i + 1) (i + 1)) := Lib.hid (by rw [← hpc]; exact hci.out.cut i4 (by rw [hby, hc]))
          replace hpc := Lib.hid hpc
          replace hie := Lib.hid hie
          replace hby := Lib.hid hby
          replace hc := Lib.hid hc
          go_wp2_with (first
            | (at_builtin
               refine wpList_append_rw _ rfl (.tmp 22) (.tmp 27) _ rfl sE_len sE_one w.heap.size 9 inf _ 16 Tryz.underlying22 hi0 iz0 iz1 iz2 rfl (by omega) u3 out rfl (hown.alloc _) _ (some ⟨wr.heap.size, 0, none⟩) 1 1 [pc] rfl rfl ((Own.lit (enc := sE) (l := [pc]) (base := 0) #[.string pc.1] (Nat.zero_le _) (by simp [maxLen]) (by simp [sE]) sE_len).reads sE_len) ?_ ?_ ?_ ?_
               · (try simp [maxLen]) <;> omega
               · (try simp) <;> omega
               · (try simp) <;> omega
               intro v4 w4 hown4 hg4 hat4
               have hz4 := hg4.size
               simp at hz4
               have hbw4 : Below w.heap.size w w4 := (hbw.alloc (by omega) _).grown hg4 (by simp; omega) (fun g hg => by have := (hlow g hg).1; omega)))
          go_roundw
          case measure => simp [intOf]; omega
          case rel => exact ⟨i + 1, i + 1, out ++ [pc], by go_num, by go_num, hnx.out, hown4, hbw4⟩
        · have hcz : ((s.1[i].toNat : Int) == 47) = false := by
            rw [beq_eq_false_iff_ne]
            intro e
            refine hc (UInt8.toNat_inj.1 ?_)
            show s.1[i].toNat = 47
            omega
          have hnx : Hid (CutAt s out a (i + 1)) := Lib.hid (hci.out.skip i4 (by rw [hby]; simpa using hc))
          clear hpe
          replace hpc := Lib.hid hpc
          replace hie := Lib.hid hie
          replace hby := Lib.hid hby
          replace hc := Lib.hid hc
          go_wp2_with fail
          go_roundw
          case rel => exact ⟨a, i + 1, out, rfl, by go_num, hnx.out, hown, hbw⟩
          case measure => simp [intOf]; omega
    · have i1 : ¬ (i : Int) ≤ (s.1.size : Int) := by omega
      have hf : out = parts s := (hci.out.fin (by omega)).symm
      subst hf
      obtain ⟨A, c, hv, hlc, _, _⟩ := hown.form
      subst hv
      go_wp2_with fail
      go_ret
      exact ⟨A, c, rfl, hown.reads sE_len, hlc, hbw⟩
set_option maxRecDepth 100000 in
set_option maxHeartbeats 4000000 in
theorem rparts_any (s : Str) (w : World) (hs : s.1.size < 4294967281) :
    Calls Tryz.prog 84 #[.string s.1] w fun e w' => ∃ A c, e = .returned (.tuple #[.slice A (partsR s).length c, .int .i64 (pathE s)]) ∧ Rw sE 1 w' w'.heap.size A (partsR s) ∧ (partsR s).length ≤ c ∧ Below w.heap.size w w' := by
  by_cases h5 : 512 < s.1.size
  · have hp := pathE_big h5
    have hr : partsR s = [] := by unfold partsR; rw [if_neg (by rw [hp]; decide)]
    rw [hp, hr]
    have h5z : (s.1.size : Int) > 512 := by omega
    go_enter Tryz.func84, Tryz.ntmps84
    go_wp2_with fail
    exact bodyPost_ret (v := .tuple #[.slice none 0 0, .int .i64 3]) (by simp [results, Tryz.results84, go_sem]) rfl ⟨none, 0, rfl, Rw.nil, by simp, Below.refl _ _⟩
  · have h5z : ¬ (s.1.size : Int) > 512 := by omega
    have hsp := Lib.hid (rsplit_any s w (by omega))
    have hlen := parts_le s
    have hn : (parts s).length ≤ 9223372036854775807 := by omega
    obtain ⟨l, hl⟩ : ∃ l, parts s = l := ⟨_, rfl⟩
    have hyes : Hid (namesB l = true → pathE s = 0 ∧ partsR s = l) := Lib.hid fun h => by
      have h1 := pathE_yes h5 (by rw [hl]; exact h)
      exact ⟨h1, by unfold partsR; rw [if_pos h1, hl]⟩
    have hno : Hid (namesB l = false → pathE s = 1 ∧ partsR s = []) := Lib.hid fun h => by
      have h1 := pathE_no h5 (by rw [hl]; exact h)
      exact ⟨h1, by unfold partsR; rw [if_neg (by rw [h1]; decide)]⟩
    rw [hl] at hsp hn
    replace hl := Lib.hid hl
    clear hlen
    go_enter Tryz.func84, Tryz.ntmps84
    go_wp2_with (go_at_call 106; go_must (refine hsp.out.mono ?_; rintro e w1 ⟨A, c, rfl, hr1, hlc, hb1⟩; have hz1 := hb1.size; replace hr1 := Lib.hid hr1))
    go_loop [5] (fun vi => ∃ k : Nat, k ≤ l.length ∧ vi = .int .i64 (k : Int) ∧ namesB (l.take k) = true) (fun vi => l.length - (intOf vi).toNat)
    case atStart => exact ⟨0, Nat.zero_le _, rfl, rfl⟩
    case round =>
      obtain ⟨k, hk, rfl, ht⟩ := hrel
      replace ht := Lib.hid ht
      by_cases hks : k < l.length
      · obtain ⟨y, hy⟩ := get_some hks
        obtain ⟨g, o, rfl, hg, hq⟩ := hr1.out.str (by omega)
        have q := hq k y hy
        have i0 : (0 : Int) ≤ (k : Int) := by omega
        have i1 : (k : Int) < (l.length : Int) := by omega
        obtain ⟨b, hb⟩ : ∃ b, nameB y.1 = b := ⟨_, rfl⟩
        have hcl0 := fun W => rname_any y.1 W y.2
        rw [hb] at hcl0
        have hcl := Lib.hid hcl0
        clear hcl0 hq
        rcases b with _ | _
        · obtain ⟨hp, hr⟩ := hno.out (by
            unfold namesB
            rw [List.all_eq_false]
            exact ⟨y, List.mem_of_getElem? hy, by rw [hb]; decide⟩)
          replace hp := Lib.hid hp
          replace hr := Lib.hid hr
          replace hy := Lib.hid hy
          replace hb := Lib.hid hb
          go_wp2_with (go_at_call 107; go_must (refine (hcl.out _).mono ?_; rintro e w2 ⟨rfl, rfl⟩))
          exact bodyPost_ret (v := .tuple #[.slice none 0 0, .int .i64 1]) (by simp [results, Tryz.results84, go_sem]) rfl ⟨none, 0, by rw [hp.out, hr.out]; rfl, by rw [hr.out]; exact Rw.nil, by rw [hr.out]; simp, hb1⟩
        · have hn2 : Hid (namesB (l.take (k + 1)) = true) := Lib.hid (by
            have h := ht.out
            unfold namesB at h ⊢
            rw [List.take_add_one, hy, List.all_append, h]
            simp [hb])
          replace hy := Lib.hid hy
          replace hb := Lib.hid hb
          go_wp2_with (go_at_call 107; go_must (refine (hcl.out _).mono ?_; rintro e w2 ⟨rfl, rfl⟩))
          go_round
          case rel => exact ⟨k + 1, by omega, by go_num, hn2.out⟩
          case measure => simp [intOf]; omega
      · have i1 : ¬ (k : Int) < (l.length : Int) := by omega
        obtain ⟨hp, hr⟩ := hyes.out (by have h := ht.out; rwa [List.take_of_length_le (by omega)] at h)
        replace hp := Lib.hid hp
        replace hr := Lib.hid hr
        go_wp2_with fail
        exact bodyPost_ret (v := .tuple #[.slice A l.length c, .int .i64 0]) (by simp [results, Tryz.results84, go_sem]) rfl ⟨A, c, by rw [hp.out, hr.out], by rw [hr.out]; exact hr1.out, by rw [hr.out]; exact hlc, hb1⟩
end Go.Proofs.YtdjepnilmgembaaGreatDoor
