/-
  The walks of labels: a number read, by the program.
  The walks of labels: a comparison, a requirement and a label read, by the program.
  The walks of labels: a requirement and a label read, by the program.
-/
import Derived.Test.YtnahbfmbmpoljaaGreatDoorLab0
import Derived.Test.YtnahbfmbmpoljaaGreatDoorOpens2
import Derived.Laws.StructEq
import Derived.Lib.QuietBelow

namespace Go.Proofs.YtnahbfmbmpoljaaGreatDoor
open Go.RowKit

theorem val_snoc (l : List UInt8) (c : UInt8) : valL (l ++ [c]) = 10 * valL l + (c.toNat - 48) := by
  unfold valL; rw [List.foldl_append]; rfl
theorem val_lt : ∀ (n : Nat) (l : List UInt8), l.length = n → l.all Id.dig = true → valL l < 10 ^ n
  | 0, l, h, _ => by
    obtain rfl : l = [] := List.eq_nil_of_length_eq_zero h
    decide
  | n + 1, l, h, hd => by
    have hne : l ≠ [] := by intro e; subst e; simp at h
    obtain ⟨l', c, rfl⟩ : ∃ l' c, l = l' ++ [c] := ⟨l.dropLast, l.getLast hne, (List.dropLast_concat_getLast hne).symm⟩
    rw [List.all_append, Bool.and_eq_true] at hd
    have h1 := val_lt n l' (by simpa using h) hd.1
    have hc : Id.dig c = true := by simpa using hd.2
    unfold Id.dig at hc
    simp at hc
    rw [val_snoc, Nat.pow_succ]
    omega
/-- The number that is returned. -/
def numL (l : List UInt8) : Nat := if preD l = true ∧ l.all Id.dig = true then valL l else 0
theorem preD_small {l : List UInt8} (h : preD l = true) : 0 < l.length ∧ l.length ≤ 16 := by
  unfold preD at h
  simp only [Bool.and_eq_true, decide_eq_true_eq, Bool.not_eq_true'] at h
  refine ⟨?_, h.1.2⟩
  rcases l with _ | ⟨c, l⟩
  · simp at h
  · simp
theorem num_bad {l : List UInt8} (h : preD l = false ∨ l.all Id.dig = false) : numL l = 0 ∧ okD l = false := by
  unfold numL okD
  rcases h with h | h <;> rw [h] <;> simp

set_option maxRecDepth 100000 in
set_option maxHeartbeats 4000000 in
theorem number_any (s : ByteArray) (w : World) (hs : s.size ≤ 9223372036854775807) : Calls Tryz.prog 93 #[.string s] w fun e w' => e = .returned (.tuple #[.int .i64 (numL s.toList), .bool (okD s.toList)]) ∧ Bel w.heap.size w w' := by
  have hlen := toList_len s
  rcases hp : preD s.toList with _ | _
  · obtain ⟨e1, e2⟩ := num_bad (Or.inl hp)
    rw [e1, e2]
    by_cases h0 : s.size = 0
    · have hem : s.toList.isEmpty = true := (empty_iff s).2 h0
      replace hp := Lib.hid hp
      replace hlen := Lib.hid hlen
      replace h0 := Lib.hid h0
      go_enter Tryz.func93, Tryz.ntmps93
      go_wp2_with fail
      exact bodyPost_ret (v := .tuple #[.int .i64 0, .bool false]) (by simp [results, Tryz.results93, go_sem]) rfl ⟨rfl, Bel.refl _ _⟩
    have hem : s.toList.isEmpty = false := by rw [← Bool.not_eq_true, empty_iff]; exact h0
    by_cases h16 : s.size > 16
    · have h16z : (s.size : Int) > 16 := by omega
      replace hp := Lib.hid hp
      replace hlen := Lib.hid hlen
      go_enter Tryz.func93, Tryz.ntmps93
      go_wp2_with fail
      exact bodyPost_ret (v := .tuple #[.int .i64 0, .bool false]) (by simp [results, Tryz.results93, go_sem]) rfl ⟨rfl, Bel.refl _ _⟩
    have h16z : ¬ (s.size : Int) > 16 := by omega
    have hz := (head_get s (by omega)).2
    have hh : 1 < s.size ∧ s[0] = 48 := by
      unfold preD at hp
      rw [hem, hlen, decide_eq_true (by omega), hz] at hp
      simpa using hp
    have h1z : (s.size : Int) > 1 := by omega
    have h48 : (s[0].toNat : Int) = 48 := by rw [hh.2]; rfl
    have i1 : (0 : Int) < (s.size : Int) := by omega
    replace hh := Lib.hid hh
    replace hp := Lib.hid hp
    replace hlen := Lib.hid hlen
    replace hz := Lib.hid hz
    go_enter Tryz.func93, Tryz.ntmps93
    go_wp2_with fail
    exact bodyPost_ret (v := .tuple #[.int .i64 0, .bool false]) (by simp [results, Tryz.results93, go_sem]) rfl ⟨rfl, Bel.refl _ _⟩
  · obtain ⟨p0, p16⟩ := preD_small hp
    rw [hlen] at p0 p16
    have hem : s.toList.isEmpty = false := by rw [← Bool.not_eq_true, empty_iff]; omega
    have hz := (head_get s (by omega)).2
    have h16z : ¬ (s.size : Int) > 16 := by omega
    have hh : Hid (1 < s.size → ¬ s[0] = 48) := Lib.hid fun h1 e => by
      unfold preD at hp
      rw [hem, hlen, decide_eq_true (by omega), hz, e, decide_eq_true h1] at hp
      simp at hp
    have hcv := run_bytes_of_string (P := Tryz.prog) w 9 76 5 s Tryz.underlying9 Tryz.underlying76 Tryz.underlying5
    have hcl : ∀ (C : Nat) (F : Nat × Nat) (k : Nat) (h : k < s.size), (w.alloc (.cells (bytesRow s C) 5 F)).cell? ⟨w.heap.size, k, none⟩ = some (.int .u8 (s[k].toNat : Int)) := fun C F k h => by
      rw [cell_of_row _ _ _ (bytesRow s C) 5 F (heap_alloc_new w _), bytesRow_at s C k h]
      rfl
    have hbl : ∀ (C : Nat) (F : Nat × Nat), Bel w.heap.size w (w.alloc (.cells (bytesRow s C) 5 F)) := fun C F => (Bel.refl _ _).alloc (Nat.le_refl _) _
    replace hlen := Lib.hid hlen
    replace hz := Lib.hid hz
    replace hp := Lib.hid hp
    replace hcl := Lib.hid hcl
    by_cases h1 : 1 < s.size
    · have h1z : (s.size : Int) > 1 := by omega
      have h48 : ¬ (s[0].toNat : Int) = 48 := by
        have := hh.out h1
        intro e
        exact this (by rw [← UInt8.toNat_inj]; show s[0].toNat = 48; omega)
      have i1 : (0 : Int) < (s.size : Int) := by omega
      go_enter Tryz.func93, Tryz.ntmps93
      go_wp2_with fail
      go_loop [4, 27] (fun vn vi => ∃ k : Nat, k ≤ s.size ∧ vn = .int .i64 (valL (s.toList.take k) : Int) ∧ vi = .int .i64 (k : Int) ∧ (s.toList.take k).all Id.dig = true) (fun _ vi => s.size - (intOf vi).toNat)
      case atStart => exact ⟨0, Nat.zero_le _, rfl, rfl, rfl⟩
      case round =>
        obtain ⟨k, hk, rfl, rfl, ht⟩ := hrel
        have hv := val_lt k (s.toList.take k) (by rw [List.length_take, hlen.out]; omega) ht
        have hv2 : 10 ^ k ≤ 10 ^ 16 := Nat.pow_le_pow_right (by omega) (by omega)
        have hv3 : valL (s.toList.take k) < 10000000000000000 := by omega
        clear hv hv2
        by_cases hks : k < s.size
        · have i0 : (0 : Int) ≤ (k : Int) := by omega
          have i1 : (k : Int) < (s.size : Int) := by omega
          have q := fun C F => hcl.out C F k hks
          have hget := toList_get s k hks
          have hsn : Hid (s.toList.take (k + 1) = s.toList.take k ++ [s[k]]) := Lib.hid (by rw [List.take_add_one, hget]; rfl)
          obtain ⟨n, hn⟩ : ∃ n, valL (s.toList.take k) = n := ⟨_, rfl⟩
          rw [hn] at hv3 ⊢
          replace ht := Lib.hid ht
          replace hget := Lib.hid hget
          obtain ⟨c, hc⟩ : ∃ c, s[k].toNat = c := ⟨_, rfl⟩
          have hc8 : c < 256 := by rw [← hc]; exact UInt8.toNat_lt _
          simp only [hc] at q
          by_cases hd : 48 ≤ c ∧ c ≤ 57
          · have d1 : ¬ (c : Int) < 48 := by omega
            have d2 : ¬ (c : Int) > 57 := by omega
            have hw1 : IntKind.u8.wrap ((c : Int) - 48) = ((c - 48 : Nat) : Int) := by
              rw [show (c : Int) - 48 = ((c - 48 : Nat) : Int) by omega]
              simp [IntKind.wrap, IntKind.bits, IntKind.signed]; omega
            obtain ⟨m, hm⟩ : ∃ m, c - 48 = m := ⟨_, rfl⟩
            rw [hm] at hw1
            have hm9 : m ≤ 9 := by omega
            have hw2 : IntKind.i64.wrap (10 * (n : Int)) = 10 * (n : Int) := IntWalk.i64_in _ (by omega)
            have hw3 : IntKind.i64.wrap (10 * (n : Int) + (m : Int)) = 10 * (n : Int) + (m : Int) := IntWalk.i64_in _ (by omega)
            have hw4 : IntKind.i64.wrap (m : Int) = (m : Int) := IntWalk.i64_in _ (by omega)
            have hdg : Hid (Id.dig s[k] = true) := Lib.hid (by unfold Id.dig; rw [hc]; simp; omega)
            have hnx : Hid (valL (s.toList.take (k + 1)) = 10 * n + m) := Lib.hid (by rw [hsn.out, val_snoc, hn, hc, hm])
            replace hn := Lib.hid hn
            replace hc := Lib.hid hc
            replace hm := Lib.hid hm
            go_wp2_with fail
            go_round
            case rel => exact ⟨k + 1, by omega, by rw [hnx.out]; go_num, by go_num, by rw [hsn.out, List.all_append, ht.out]; simp [hdg.out]⟩
            case measure => simp [intOf]; omega
          · have hbad : Hid (s.toList.all Id.dig = false) := Lib.hid (by
              rw [List.all_eq_false]
              exact ⟨s[k], List.mem_of_getElem? hget.out, by unfold Id.dig; rw [hc]; simp; omega⟩)
            obtain ⟨e1, e2⟩ := num_bad (Or.inr hbad.out)
            replace e1 := Lib.hid e1
            replace e2 := Lib.hid e2
            replace hn := Lib.hid hn
            replace hc := Lib.hid hc
            by_cases hd1 : c < 48
            · have d1 : (c : Int) < 48 := by omega
              go_wp2_with fail
              exact bodyPost_ret (v := .tuple #[.int .i64 0, .bool false]) (by simp [results, Tryz.results93, go_sem]) rfl ⟨by rw [e1.out, e2.out]; rfl, (by repeat (first | (with_reducible exact Bel.refl _ _) | (with_reducible refine Bel.drew ?_) | (with_reducible refine Bel.drewN ?_ _) | ((with_reducible refine Bel.alloc ?_ ?_ _); rotate_left; focus ((try simp) <;> omega)) | ((with_reducible refine Bel.setCell ?_ ?_ _); rotate_left; focus ((try simp) <;> omega)) | ((with_reducible refine Bel.trans ?_ (Bel.mono (by assumption) ?_)); rotate_left; focus ((try simp) <;> omega))))⟩
            · have d1 : ¬ (c : Int) < 48 := by omega
              have d2 : (c : Int) > 57 := by omega
              go_wp2_with fail
              exact bodyPost_ret (v := .tuple #[.int .i64 0, .bool false]) (by simp [results, Tryz.results93, go_sem]) rfl ⟨by rw [e1.out, e2.out]; rfl, (by repeat (first | (with_reducible exact Bel.refl _ _) | (with_reducible refine Bel.drew ?_) | (with_reducible refine Bel.drewN ?_ _) | ((with_reducible refine Bel.alloc ?_ ?_ _); rotate_left; focus ((try simp) <;> omega)) | ((with_reducible refine Bel.setCell ?_ ?_ _); rotate_left; focus ((try simp) <;> omega)) | ((with_reducible refine Bel.trans ?_ (Bel.mono (by assumption) ?_)); rotate_left; focus ((try simp) <;> omega))))⟩
        · have i1 : ¬ (k : Int) < (s.size : Int) := by omega
          have htk : s.toList.take k = s.toList := List.take_of_length_le (by rw [hlen.out]; omega)
          rw [htk] at ht hv3
          rw [htk]
          have e1 : numL s.toList = valL s.toList := by unfold numL; rw [if_pos ⟨hp.out, ht⟩]
          have e2 : okD s.toList = decide (valL s.toList ≤ 9007199254740992) := by unfold okD; rw [hp.out, ht]; rfl
          generalize valL s.toList = n at hv3 e1 e2 ⊢
          replace e1 := Lib.hid e1
          replace e2 := Lib.hid e2
          replace ht := Lib.hid ht
          replace htk := Lib.hid htk
          go_wp2_with fail
          exact bodyPost_ret (v := .tuple #[.int .i64 (n : Int), .bool (decide ((n : Int) ≤ 9007199254740992))]) (by simp [results, Tryz.results93, go_sem]) rfl ⟨by rw [e1.out, e2.out]; congr 4; simp; omega, (by repeat (first | (with_reducible exact Bel.refl _ _) | (with_reducible refine Bel.drew ?_) | (with_reducible refine Bel.drewN ?_ _) | ((with_reducible refine Bel.alloc ?_ ?_ _); rotate_left; focus ((try simp) <;> omega)) | ((with_reducible refine Bel.setCell ?_ ?_ _); rotate_left; focus ((try simp) <;> omega)) | ((with_reducible refine Bel.trans ?_ (Bel.mono (by assumption) ?_)); rotate_left; focus ((try simp) <;> omega))))⟩
    · have h1z : ¬ (s.size : Int) > 1 := by omega
      go_enter Tryz.func93, Tryz.ntmps93
      go_wp2_with fail
      go_loop [4, 27] (fun vn vi => ∃ k : Nat, k ≤ s.size ∧ vn = .int .i64 (valL (s.toList.take k) : Int) ∧ vi = .int .i64 (k : Int) ∧ (s.toList.take k).all Id.dig = true) (fun _ vi => s.size - (intOf vi).toNat)
      case atStart => exact ⟨0, Nat.zero_le _, rfl, rfl, rfl⟩
      case round =>
        obtain ⟨k, hk, rfl, rfl, ht⟩ := hrel
        have hv := val_lt k (s.toList.take k) (by rw [List.length_take, hlen.out]; omega) ht
        have hv2 : 10 ^ k ≤ 10 ^ 16 := Nat.pow_le_pow_right (by omega) (by omega)
        have hv3 : valL (s.toList.take k) < 10000000000000000 := by omega
        clear hv hv2
        by_cases hks : k < s.size
        · have i0 : (0 : Int) ≤ (k : Int) := by omega
          have i1 : (k : Int) < (s.size : Int) := by omega
          have q := fun C F => hcl.out C F k hks
          have hget := toList_get s k hks
          have hsn : Hid (s.toList.take (k + 1) = s.toList.take k ++ [s[k]]) := Lib.hid (by rw [List.take_add_one, hget]; rfl)
          obtain ⟨n, hn⟩ : ∃ n, valL (s.toList.take k) = n := ⟨_, rfl⟩
          rw [hn] at hv3 ⊢
          replace ht := Lib.hid ht
          replace hget := Lib.hid hget
          obtain ⟨c, hc⟩ : ∃ c, s[k].toNat = c := ⟨_, rfl⟩
          have hc8 : c < 256 := by rw [← hc]; exact UInt8.toNat_lt _
          simp only [hc] at q
          by_cases hd : 48 ≤ c ∧ c ≤ 57
          · have d1 : ¬ (c : Int) < 48 := by omega
            have d2 : ¬ (c : Int) > 57 := by omega
            have hw1 : IntKind.u8.wrap ((c : Int) - 48) = ((c - 48 : Nat) : Int) := by
              rw [show (c : Int) - 48 = ((c - 48 : Nat) : Int) by omega]
              simp [IntKind.wrap, IntKind.bits, IntKind.signed]; omega
            obtain ⟨m, hm⟩ : ∃ m, c - 48 = m := ⟨_, rfl⟩
            rw [hm] at hw1
            have hm9 : m ≤ 9 := by omega
            have hw2 : IntKind.i64.wrap (10 * (n : Int)) = 10 * (n : Int) := IntWalk.i64_in _ (by omega)
            have hw3 : IntKind.i64.wrap (10 * (n : Int) + (m : Int)) = 10 * (n : Int) + (m : Int) := IntWalk.i64_in _ (by omega)
            have hw4 : IntKind.i64.wrap (m : Int) = (m : Int) := IntWalk.i64_in _ (by omega)
            have hdg : Hid (Id.dig s[k] = true) := Lib.hid (by unfold Id.dig; rw [hc]; simp; omega)
            have hnx : Hid (valL (s.toList.take (k + 1)) = 10 * n + m) := Lib.hid (by rw [hsn.out, val_snoc, hn, hc, hm])
            replace hn := Lib.hid hn
            replace hc := Lib.hid hc
            replace hm := Lib.hid hm
            go_wp2_with fail
            go_round
            case rel => exact ⟨k + 1, by omega, by rw [hnx.out]; go_num, by go_num, by rw [hsn.out, List.all_append, ht.out]; simp [hdg.out]⟩
            case measure => simp [intOf]; omega
          · have hbad : Hid (s.toList.all Id.dig = false) := Lib.hid (by
              rw [List.all_eq_false]
              exact ⟨s[k], List.mem_of_getElem? hget.out, by unfold Id.dig; rw [hc]; simp; omega⟩)
            obtain ⟨e1, e2⟩ := num_bad (Or.inr hbad.out)
            replace e1 := Lib.hid e1
            replace e2 := Lib.hid e2
            replace hn := Lib.hid hn
            replace hc := Lib.hid hc
            by_cases hd1 : c < 48
            · have d1 : (c : Int) < 48 := by omega
              go_wp2_with fail
              exact bodyPost_ret (v := .tuple #[.int .i64 0, .bool false]) (by simp [results, Tryz.results93, go_sem]) rfl ⟨by rw [e1.out, e2.out]; rfl, (by repeat (first | (with_reducible exact Bel.refl _ _) | (with_reducible refine Bel.drew ?_) | (with_reducible refine Bel.drewN ?_ _) | ((with_reducible refine Bel.alloc ?_ ?_ _); rotate_left; focus ((try simp) <;> omega)) | ((with_reducible refine Bel.setCell ?_ ?_ _); rotate_left; focus ((try simp) <;> omega)) | ((with_reducible refine Bel.trans ?_ (Bel.mono (by assumption) ?_)); rotate_left; focus ((try simp) <;> omega))))⟩
            · have d1 : ¬ (c : Int) < 48 := by omega
              have d2 : (c : Int) > 57 := by omega
              go_wp2_with fail
              exact bodyPost_ret (v := .tuple #[.int .i64 0, .bool false]) (by simp [results, Tryz.results93, go_sem]) rfl ⟨by rw [e1.out, e2.out]; rfl, (by repeat (first | (with_reducible exact Bel.refl _ _) | (with_reducible refine Bel.drew ?_) | (with_reducible refine Bel.drewN ?_ _) | ((with_reducible refine Bel.alloc ?_ ?_ _); rotate_left; focus ((try simp) <;> omega)) | ((with_reducible refine Bel.setCell ?_ ?_ _); rotate_left; focus ((try simp) <;> omega)) | ((with_reducible refine Bel.trans ?_ (Bel.mono (by assumption) ?_)); rotate_left; focus ((try simp) <;> omega))))⟩
        · have i1 : ¬ (k : Int) < (s.size : Int) := by omega
          have htk : s.toList.take k = s.toList := List.take_of_length_le (by rw [hlen.out]; omega)
          rw [htk] at ht hv3
          rw [htk]
          have e1 : numL s.toList = valL s.toList := by unfold numL; rw [if_pos ⟨hp.out, ht⟩]
          have e2 : okD s.toList = decide (valL s.toList ≤ 9007199254740992) := by unfold okD; rw [hp.out, ht]; rfl
          generalize valL s.toList = n at hv3 e1 e2 ⊢
          replace e1 := Lib.hid e1
          replace e2 := Lib.hid e2
          replace ht := Lib.hid ht
          replace htk := Lib.hid htk
          go_wp2_with fail
          exact bodyPost_ret (v := .tuple #[.int .i64 (n : Int), .bool (decide ((n : Int) ≤ 9007199254740992))]) (by simp [results, Tryz.results93, go_sem]) rfl ⟨by rw [e1.out, e2.out]; congr 4; simp; omega, (by repeat (first | (with_reducible exact Bel.refl _ _) | (with_reducible refine Bel.drew ?_) | (with_reducible refine Bel.drewN ?_ _) | ((with_reducible refine Bel.alloc ?_ ?_ _); rotate_left; focus ((try simp) <;> omega)) | ((with_reducible refine Bel.setCell ?_ ?_ _); rotate_left; focus ((try simp) <;> omega)) | ((with_reducible refine Bel.trans ?_ (Bel.mono (by assumption) ?_)); rotate_left; focus ((try simp) <;> omega))))⟩
end Go.Proofs.YtnahbfmbmpoljaaGreatDoor

namespace Go.Proofs.YtnahbfmbmpoljaaGreatDoor
open Go.RowKit

/-- The library's variable that a search of a string asks for holds some number. -/
def Glob (w : World) : Prop := ∃ m, w.cell? ⟨2, 0, none⟩ = some (.int .i64 m)
theorem Glob.keep {w w' : World} (h : Glob w) (hb : Below w.heap.size w w') : Glob w' := by
  obtain ⟨m, h⟩ := h
  exact ⟨m, (hb.cell (p := ⟨2, 0, none⟩) (World.block_lt_of_cell? _ _ h)).trans h⟩
theorem Glob.bel {w w' : World} {B : Nat} (h : Glob w) (hb : Bel B w w') (hB : w.heap.size ≤ B) : Glob w' := by
  obtain ⟨m, h⟩ := h
  exact ⟨m, (hb.toBelow.cell (p := ⟨2, 0, none⟩) (by have := World.block_lt_of_cell? _ _ h; show 2 < B; have : 2 < w.heap.size := this; omega)).trans h⟩

/-- A requirement that was read, as a value. -/
def tv (p : Part) : Value := .agg #[.int .i64 p.1, .string ⟨p.2.1.toArray⟩, .int .i64 p.2.2]
theorem mk_toList (l : List UInt8) : (⟨l.toArray⟩ : ByteArray).toList = l := by rw [Lib.toList_data]
theorem mk_size (l : List UInt8) : (⟨l.toArray⟩ : ByteArray).size = l.length := rfl
theorem cut_len (s : List UInt8) (c : UInt8) (t : List UInt8) : (Lib.cut s (c :: t)).1.length ≤ s.length ∧ (Lib.cut s (c :: t)).2.1.length ≤ s.length := by
  rcases cut_cases s c t with ⟨e, _⟩ | ⟨a, b, e, h, _⟩
  · rw [e]; exact ⟨Nat.le_refl _, Nat.zero_le _⟩
  · rw [e, h]; simp; omega
theorem num_ok {l : List UInt8} (h : okD l = true) : numL l = valL l := by
  unfold okD at h
  simp only [Bool.and_eq_true] at h
  unfold numL
  rw [if_pos ⟨h.1.1, h.1.2⟩]

theorem signs_any (w : World) : Calls Tryz.prog 91 #[] w fun e w' => e = .returned (.agg #[.string ⟨#[62, 61]⟩, .int .i64 3, .string ⟨#[60, 61]⟩, .int .i64 4, .string ⟨#[61]⟩, .int .i64 5]) ∧ Bel w.heap.size w w' := by
  go_enter Tryz.func91, Tryz.ntmps91
  go_wp2_with fail
  exact bodyPost_ret (v := .agg #[.string ⟨#[62, 61]⟩, .int .i64 3, .string ⟨#[60, 61]⟩, .int .i64 4, .string ⟨#[61]⟩, .int .i64 5]) (by simp [results, Tryz.results91, go_sem]) rfl ⟨rfl, (by repeat (first | (with_reducible exact Bel.refl _ _) | (with_reducible refine Bel.drew ?_) | (with_reducible refine Bel.drewN ?_ _) | ((with_reducible refine Bel.alloc ?_ ?_ _); rotate_left; focus ((try simp) <;> omega)) | ((with_reducible refine Bel.setCell ?_ ?_ _); rotate_left; focus ((try simp) <;> omega)) | ((with_reducible refine Bel.trans ?_ (Bel.mono (by assumption) ?_)); rotate_left; focus ((try simp) <;> omega))))⟩


theorem blk_at {W w1 : World} (hb : Below W.heap.size W w1) (g : Nat) (hg : g < W.heap.size) : (∀ o, w1.cell? ⟨g, o, none⟩ = W.cell? ⟨g, o, none⟩) ∧ (∀ o, w1.frozen? ⟨g, o, none⟩ = W.frozen? ⟨g, o, none⟩) :=
  ⟨fun o => hb.cell (p := ⟨g, o, none⟩) hg, fun o => hb.frozen (p := ⟨g, o, none⟩) hg⟩
theorem set3_cells {w : World} {g : Nat} {u0 u1 u2 a b c : Value} (h0 : w.cell? ⟨g, 0, none⟩ = some u0) (h1 : w.cell? ⟨g, 1, none⟩ = some u1) (h2 : w.cell? ⟨g, 2, none⟩ = some u2) :
    ((((w.setCell ⟨g, 0, none⟩ a).setCell ⟨g, 1, none⟩ b).setCell ⟨g, 2, none⟩ c).cell? ⟨g, 0, none⟩ = some a ∧ (((w.setCell ⟨g, 0, none⟩ a).setCell ⟨g, 1, none⟩ b).setCell ⟨g, 2, none⟩ c).cell? ⟨g, 1, none⟩ = some b ∧ (((w.setCell ⟨g, 0, none⟩ a).setCell ⟨g, 1, none⟩ b).setCell ⟨g, 2, none⟩ c).cell? ⟨g, 2, none⟩ = some c) := by
  refine ⟨?_, ?_, ?_⟩
  · rw [World.cell?_setCell_other _ _ _ _ (by simp), World.cell?_setCell_other _ _ _ _ (by simp), World.cell?_setCell_same _ _ _ h0]
  · rw [World.cell?_setCell_other _ _ _ _ (by simp), World.cell?_setCell_same _ _ _ (by rw [World.cell?_setCell_other _ _ _ _ (by simp)]; exact h1)]
  · rw [World.cell?_setCell_same _ _ _ (by rw [World.cell?_setCell_other _ _ _ _ (by simp), World.cell?_setCell_other _ _ _ _ (by simp)]; exact h2)]
theorem comp_1 {s : List UInt8} (h : (Lib.cut s [62, 61]).2.2 = true) : compL s = partL 3 (Lib.cut s [62, 61]).1 (Lib.cut s [62, 61]).2.1 := by unfold compL; rw [if_pos h]
theorem comp_2 {s : List UInt8} (h1 : (Lib.cut s [62, 61]).2.2 = false) (h : (Lib.cut s [60, 61]).2.2 = true) : compL s = partL 4 (Lib.cut s [60, 61]).1 (Lib.cut s [60, 61]).2.1 := by unfold compL; rw [if_neg (by rw [h1]; decide), if_pos h]
theorem comp_3 {s : List UInt8} (h1 : (Lib.cut s [62, 61]).2.2 = false) (h2 : (Lib.cut s [60, 61]).2.2 = false) (h : (Lib.cut s [61]).2.2 = true) : compL s = partL 5 (Lib.cut s [61]).1 (Lib.cut s [61]).2.1 := by unfold compL; rw [if_neg (by rw [h1]; decide), if_neg (by rw [h2]; decide), if_pos h]
theorem comp_0 {s : List UInt8} (h1 : (Lib.cut s [62, 61]).2.2 = false) (h2 : (Lib.cut s [60, 61]).2.2 = false) (h3 : (Lib.cut s [61]).2.2 = false) : compL s = (0, [], 0) := by unfold compL; rw [if_neg (by rw [h1]; decide), if_neg (by rw [h2]; decide), if_neg (by rw [h3]; decide)]
/-- The signs that were not found before the k-th. -/
def NoSign (s : List UInt8) (k : Nat) : Prop := (0 < k → (Lib.cut s [62, 61]).2.2 = false) ∧ (1 < k → (Lib.cut s [60, 61]).2.2 = false) ∧ (2 < k → (Lib.cut s [61]).2.2 = false)

theorem ix0 (W : World) : (Instr.index 114 (.agg #[.string ⟨#[62, 61]⟩, .int .i64 3, .string ⟨#[60, 61]⟩, .int .i64 4, .string ⟨#[61]⟩, .int .i64 5]) (.int .i64 0)).run Tryz.prog W = .ok (.agg #[.string ⟨#[62, 61]⟩, .int .i64 3]) W := by kernel_rfl
theorem ix1 (W : World) : (Instr.index 114 (.agg #[.string ⟨#[62, 61]⟩, .int .i64 3, .string ⟨#[60, 61]⟩, .int .i64 4, .string ⟨#[61]⟩, .int .i64 5]) (.int .i64 1)).run Tryz.prog W = .ok (.agg #[.string ⟨#[60, 61]⟩, .int .i64 4]) W := by kernel_rfl
theorem ix2 (W : World) : (Instr.index 114 (.agg #[.string ⟨#[62, 61]⟩, .int .i64 3, .string ⟨#[60, 61]⟩, .int .i64 4, .string ⟨#[61]⟩, .int .i64 5]) (.int .i64 2)).run Tryz.prog W = .ok (.agg #[.string ⟨#[61]⟩, .int .i64 5]) W := by kernel_rfl
attribute [local go_sem ↓] ix0 ix1 ix2
set_option maxRecDepth 100000 in
set_option maxHeartbeats 4000000 in
theorem compared_any (s : ByteArray) (w : World) (hs : s.size < 4294967281) (hG : Glob w) : Calls Tryz.prog 83 #[.string s] w fun e w' => e = .returned (.tuple #[tv (compL s.toList), .bool (decide ((compL s.toList).1 ≠ 0))]) ∧ Bel w.heap.size w w' := by
  have hcut : Hid (∀ W, Bel w.heap.size w W → ∀ sep, Calls Tryz.prog 92 #[.string s, .string sep] W fun e w' => e = .returned (.tuple #[.string ⟨(Lib.cut s.data.toList sep.data.toList).1.toArray⟩, .string ⟨(Lib.cut s.data.toList sep.data.toList).2.1.toArray⟩, .bool (Lib.cut s.data.toList sep.data.toList).2.2]) ∧ ∃ n, w' = W.drewN n) := Lib.hid fun W hb sep => by
    obtain ⟨m, hm⟩ := hG.bel hb (Nat.le_refl _)
    exact Tryz.strings_Cut s sep m W hs hm
  go_enter Tryz.func83, Tryz.ntmps83
  go_wp2_with (go_at_call 91; go_must (refine (signs_any _).mono ?_; rintro e w1 ⟨rfl, hb1⟩; have hz1 := hb1.size; (try simp at hz1); obtain ⟨hc1, hf1⟩ := blk_at hb1.toBelow w.heap.size (by (try simp) <;> omega)))
  go_loopw [12] (fun vi wr => ∃ k : Nat, k ≤ 3 ∧ vi = .int .i64 (k : Int) ∧ NoSign s.toList k ∧ (wr.cell? ⟨w.heap.size, 0, none⟩ = some (.int .i64 0) ∧ wr.cell? ⟨w.heap.size, 1, none⟩ = some (.string ⟨#[]⟩) ∧ wr.cell? ⟨w.heap.size, 2, none⟩ = some (.int .i64 0)) ∧ (∀ j, wr.frozen? ⟨w.heap.size, j, none⟩ = false) ∧ w.heap.size < wr.heap.size ∧ Bel w.heap.size w wr) (fun vi _ => 3 - (intOf vi).toNat)
  case atStart => exact ⟨0, by omega, rfl, ⟨fun h => absurd h (by omega), fun h => absurd h (by omega), fun h => absurd h (by omega)⟩, ⟨by go_simp, by go_simp, by go_simp⟩, fun j => by go_simp, by omega, (by repeat (first | (with_reducible exact Bel.refl _ _) | (with_reducible refine Bel.drew ?_) | (with_reducible refine Bel.drewN ?_ _) | ((with_reducible refine Bel.alloc ?_ ?_ _); rotate_left; focus ((try simp) <;> omega)) | ((with_reducible refine Bel.setCell ?_ ?_ _); rotate_left; focus ((try simp) <;> omega)) | ((with_reducible refine Bel.trans ?_ (Bel.mono (by assumption) ?_)); rotate_left; focus ((try simp) <;> omega))))⟩
  case round =>
    obtain ⟨k, hk, rfl, hns, ⟨m0, m1, m2⟩, hfz, hBw, hbw⟩ := hrel
    have hz := hbw.size
    replace hns := Lib.hid hns
    clear hc1 hf1 hb1 hz1
    obtain rfl | rfl | rfl | rfl : k = 0 ∨ k = 1 ∨ k = 2 ∨ k = 3 := by omega
    · have hcl := cut_len s.toList 62 [61]
      obtain ⟨nm, hnm⟩ : ∃ nm, (Lib.cut s.toList (62 :: [61])).1 = nm := ⟨_, rfl⟩
      obtain ⟨rs, hrs⟩ : ∃ rs, (Lib.cut s.toList (62 :: [61])).2.1 = rs := ⟨_, rfl⟩
      obtain ⟨fd, hfd⟩ : ∃ fd, (Lib.cut s.toList (62 :: [61])).2.2 = fd := ⟨_, rfl⟩
      have hcx : Hid (∀ W, Bel w.heap.size w W → Calls Tryz.prog 92 #[.string s, .string ⟨(62 :: [61]).toArray⟩] W fun e w' => e = .returned (.tuple #[.string ⟨nm.toArray⟩, .string ⟨rs.toArray⟩, .bool fd]) ∧ ∃ n, w' = W.drewN n) := Lib.hid fun W hb => by
        have h := hcut.out W hb ⟨(62 :: [61]).toArray⟩
        rw [← Lib.toList_data] at h
        rw [show (⟨(62 :: [61]).toArray⟩ : ByteArray).data.toList = 62 :: [61] from rfl, hnm, hrs, hfd] at h
        exact h
      rw [hnm, hrs] at hcl
      have hnum : Hid (∀ W, Calls Tryz.prog 93 #[.string ⟨rs.toArray⟩] W fun e w' => e = .returned (.tuple #[.int .i64 (numL rs), .bool (okD rs)]) ∧ Bel W.heap.size W w') := Lib.hid fun W => by
        have h := number_any ⟨rs.toArray⟩ W (by rw [mk_size]; have := toList_len s; omega)
        rw [mk_toList] at h
        exact h
      have hnam : Hid (∀ W, Calls Tryz.prog 39 #[.string ⟨nm.toArray⟩] W fun e w' => e = .returned (.bool (nL nm)) ∧ Bel W.heap.size W w') := Lib.hid fun W => name_any ⟨nm.toArray⟩ W (by rw [mk_size]; have := toList_len s; omega)
      clear hcl
      rcases fd with _ | _
      · have hnx := Lib.hid (show NoSign s.toList (0 + 1) from ⟨fun h => by first | exact hfd | exact hns.out.1 (by omega), fun h => by first | exact hfd | exact hns.out.2.1 (by omega) | omega, fun h => by first | exact hfd | omega⟩)
        replace hnm := Lib.hid hnm
        replace hrs := Lib.hid hrs
        replace hfd := Lib.hid hfd
        go_wp2_with (go_at_call 92; go_must (refine (hcx.out _ (by repeat (first | (with_reducible exact Bel.refl _ _) | (with_reducible refine Bel.drew ?_) | (with_reducible refine Bel.drewN ?_ _) | ((with_reducible refine Bel.alloc ?_ ?_ _); rotate_left; focus ((try simp) <;> omega)) | ((with_reducible refine Bel.setCell ?_ ?_ _); rotate_left; focus ((try simp) <;> omega)) | ((with_reducible refine Bel.trans ?_ (Bel.mono (by assumption) ?_)); rotate_left; focus ((try simp) <;> omega))))).mono ?_; rintro e w2 ⟨rfl, nq, rfl⟩))
        go_roundw
        case rel => exact ⟨0 + 1, by omega, by first | rfl | go_num, hnx.out, ⟨by go_simp, by go_simp, by go_simp⟩, fun j => by go_simp, by simp; omega, (by repeat (first | (with_reducible exact Bel.refl _ _) | (with_reducible refine Bel.drew ?_) | (with_reducible refine Bel.drewN ?_ _) | ((with_reducible refine Bel.alloc ?_ ?_ _); rotate_left; focus ((try simp) <;> omega)) | ((with_reducible refine Bel.setCell ?_ ?_ _); rotate_left; focus ((try simp) <;> omega)) | ((with_reducible refine Bel.trans ?_ (Bel.mono (by assumption) ?_)); rotate_left; focus ((try simp) <;> omega))))⟩
        case measure => simp [intOf]
      · have hco : compL s.toList = partL 3 nm rs := by rw [← hnm, ← hrs]; exact comp_1 hfd
        rcases ho : okD rs with _ | _
        · have hfin := Lib.hid (show compL s.toList = (0, [], 0) by rw [hco]; exact part_no (Or.inl ho))
          rw [ho] at hnum
          replace hnm := Lib.hid hnm
          replace hrs := Lib.hid hrs
          replace hfd := Lib.hid hfd
          replace hco := Lib.hid hco
          replace ho := Lib.hid ho
          go_wp2_with (first | (go_at_call 92; go_must (refine (hcx.out _ (by repeat (first | (with_reducible exact Bel.refl _ _) | (with_reducible refine Bel.drew ?_) | (with_reducible refine Bel.drewN ?_ _) | ((with_reducible refine Bel.alloc ?_ ?_ _); rotate_left; focus ((try simp) <;> omega)) | ((with_reducible refine Bel.setCell ?_ ?_ _); rotate_left; focus ((try simp) <;> omega)) | ((with_reducible refine Bel.trans ?_ (Bel.mono (by assumption) ?_)); rotate_left; focus ((try simp) <;> omega))))).mono ?_; rintro e w2 ⟨rfl, nq, rfl⟩)) | (go_at_call 93; go_must (refine (hnum.out _).mono ?_; rintro e w3 ⟨rfl, hb3⟩; have hz3 := hb3.size; (try simp at hz3); obtain ⟨hc3, hf3⟩ := blk_at hb3.toBelow w.heap.size (by (try simp) <;> omega); obtain ⟨hd3, he3⟩ := blk_at hb3.toBelow wr.heap.size (by (try simp) <;> omega))))
          have hB : Bel wr.heap.size wr w3 := (by repeat (first | (with_reducible exact Bel.refl _ _) | (with_reducible refine Bel.drew ?_) | (with_reducible refine Bel.drewN ?_ _) | ((with_reducible refine Bel.alloc ?_ ?_ _); rotate_left; focus ((try simp) <;> omega)) | ((with_reducible refine Bel.setCell ?_ ?_ _); rotate_left; focus ((try simp) <;> omega)) | ((with_reducible refine Bel.trans ?_ (Bel.mono (by assumption) ?_)); rotate_left; focus ((try simp) <;> omega))))
          obtain ⟨s0, s1, s2⟩ := set3_cells (a := .int .i64 0) (b := .string ⟨#[]⟩) (c := .int .i64 0) ((hB.toBelow.cell (p := ⟨w.heap.size, 0, none⟩) hBw).trans m0) ((hB.toBelow.cell (p := ⟨w.heap.size, 1, none⟩) hBw).trans m1) ((hB.toBelow.cell (p := ⟨w.heap.size, 2, none⟩) hBw).trans m2)
          clear hB
          exact bodyPost_ret (v := .tuple #[.agg #[.int .i64 0, .string ⟨#[]⟩, .int .i64 0], .bool false]) (by simp [results, Tryz.results83, go_sem, s0, s1, s2]) rfl ⟨by rw [hfin.out]; rfl, (by repeat (first | (with_reducible exact Bel.refl _ _) | (with_reducible refine Bel.drew ?_) | (with_reducible refine Bel.drewN ?_ _) | ((with_reducible refine Bel.alloc ?_ ?_ _); rotate_left; focus ((try simp) <;> omega)) | ((with_reducible refine Bel.setCell ?_ ?_ _); rotate_left; focus ((try simp) <;> omega)) | ((with_reducible refine Bel.trans ?_ (Bel.mono (by assumption) ?_)); rotate_left; focus ((try simp) <;> omega))))⟩
        · rcases hn : nL nm with _ | _
          · have hfin := Lib.hid (show compL s.toList = (0, [], 0) by rw [hco]; exact part_no (Or.inr hn))
            rw [ho] at hnum
            rw [hn] at hnam
            replace hnm := Lib.hid hnm
            replace hrs := Lib.hid hrs
            replace hfd := Lib.hid hfd
            replace hco := Lib.hid hco
            replace ho := Lib.hid ho
            replace hn := Lib.hid hn
            go_wp2_with (first | (go_at_call 92; go_must (refine (hcx.out _ (by repeat (first | (with_reducible exact Bel.refl _ _) | (with_reducible refine Bel.drew ?_) | (with_reducible refine Bel.drewN ?_ _) | ((with_reducible refine Bel.alloc ?_ ?_ _); rotate_left; focus ((try simp) <;> omega)) | ((with_reducible refine Bel.setCell ?_ ?_ _); rotate_left; focus ((try simp) <;> omega)) | ((with_reducible refine Bel.trans ?_ (Bel.mono (by assumption) ?_)); rotate_left; focus ((try simp) <;> omega))))).mono ?_; rintro e w2 ⟨rfl, nq, rfl⟩)) | (go_at_call 93; go_must (refine (hnum.out _).mono ?_; rintro e w3 ⟨rfl, hb3⟩; have hz3 := hb3.size; (try simp at hz3); obtain ⟨hc3, hf3⟩ := blk_at hb3.toBelow w.heap.size (by (try simp) <;> omega); obtain ⟨hd3, he3⟩ := blk_at hb3.toBelow wr.heap.size (by (try simp) <;> omega))) | (go_at_call 39; go_must (refine (hnam.out _).mono ?_; rintro e w4 ⟨rfl, hb4⟩; have hz4 := hb4.size; (try simp at hz4); obtain ⟨hc4, hf4⟩ := blk_at hb4.toBelow w.heap.size (by (try simp) <;> omega); obtain ⟨hd4, he4⟩ := blk_at hb4.toBelow wr.heap.size (by (try simp) <;> omega))))
            have hB : Bel wr.heap.size wr w4 := (by repeat (first | (with_reducible exact Bel.refl _ _) | (with_reducible refine Bel.drew ?_) | (with_reducible refine Bel.drewN ?_ _) | ((with_reducible refine Bel.alloc ?_ ?_ _); rotate_left; focus ((try simp) <;> omega)) | ((with_reducible refine Bel.setCell ?_ ?_ _); rotate_left; focus ((try simp) <;> omega)) | ((with_reducible refine Bel.trans ?_ (Bel.mono (by assumption) ?_)); rotate_left; focus ((try simp) <;> omega))))
            obtain ⟨s0, s1, s2⟩ := set3_cells (a := .int .i64 0) (b := .string ⟨#[]⟩) (c := .int .i64 0) ((hB.toBelow.cell (p := ⟨w.heap.size, 0, none⟩) hBw).trans m0) ((hB.toBelow.cell (p := ⟨w.heap.size, 1, none⟩) hBw).trans m1) ((hB.toBelow.cell (p := ⟨w.heap.size, 2, none⟩) hBw).trans m2)
            clear hB
            exact bodyPost_ret (v := .tuple #[.agg #[.int .i64 0, .string ⟨#[]⟩, .int .i64 0], .bool false]) (by simp [results, Tryz.results83, go_sem, s0, s1, s2]) rfl ⟨by rw [hfin.out]; rfl, (by repeat (first | (with_reducible exact Bel.refl _ _) | (with_reducible refine Bel.drew ?_) | (with_reducible refine Bel.drewN ?_ _) | ((with_reducible refine Bel.alloc ?_ ?_ _); rotate_left; focus ((try simp) <;> omega)) | ((with_reducible refine Bel.setCell ?_ ?_ _); rotate_left; focus ((try simp) <;> omega)) | ((with_reducible refine Bel.trans ?_ (Bel.mono (by assumption) ?_)); rotate_left; focus ((try simp) <;> omega))))⟩
          · have hfin := Lib.hid (show compL s.toList = (3, nm, numL rs) by rw [hco, num_ok ho]; unfold partL; rw [if_pos ⟨ho, hn⟩])
            rw [ho] at hnum
            rw [hn] at hnam
            generalize numL rs = nv at hnum hfin
            replace hnm := Lib.hid hnm
            replace hrs := Lib.hid hrs
            replace hfd := Lib.hid hfd
            replace hco := Lib.hid hco
            replace ho := Lib.hid ho
            replace hn := Lib.hid hn
            go_wp2_with (first | (go_at_call 92; go_must (refine (hcx.out _ (by repeat (first | (with_reducible exact Bel.refl _ _) | (with_reducible refine Bel.drew ?_) | (with_reducible refine Bel.drewN ?_ _) | ((with_reducible refine Bel.alloc ?_ ?_ _); rotate_left; focus ((try simp) <;> omega)) | ((with_reducible refine Bel.setCell ?_ ?_ _); rotate_left; focus ((try simp) <;> omega)) | ((with_reducible refine Bel.trans ?_ (Bel.mono (by assumption) ?_)); rotate_left; focus ((try simp) <;> omega))))).mono ?_; rintro e w2 ⟨rfl, nq, rfl⟩)) | (go_at_call 93; go_must (refine (hnum.out _).mono ?_; rintro e w3 ⟨rfl, hb3⟩; have hz3 := hb3.size; (try simp at hz3); obtain ⟨hc3, hf3⟩ := blk_at hb3.toBelow w.heap.size (by (try simp) <;> omega); obtain ⟨hd3, he3⟩ := blk_at hb3.toBelow wr.heap.size (by (try simp) <;> omega))) | (go_at_call 39; go_must (refine (hnam.out _).mono ?_; rintro e w4 ⟨rfl, hb4⟩; have hz4 := hb4.size; (try simp at hz4); obtain ⟨hc4, hf4⟩ := blk_at hb4.toBelow w.heap.size (by (try simp) <;> omega); obtain ⟨hd4, he4⟩ := blk_at hb4.toBelow wr.heap.size (by (try simp) <;> omega))))
            have hB : Bel wr.heap.size wr w4 := (by repeat (first | (with_reducible exact Bel.refl _ _) | (with_reducible refine Bel.drew ?_) | (with_reducible refine Bel.drewN ?_ _) | ((with_reducible refine Bel.alloc ?_ ?_ _); rotate_left; focus ((try simp) <;> omega)) | ((with_reducible refine Bel.setCell ?_ ?_ _); rotate_left; focus ((try simp) <;> omega)) | ((with_reducible refine Bel.trans ?_ (Bel.mono (by assumption) ?_)); rotate_left; focus ((try simp) <;> omega))))
            obtain ⟨s0, s1, s2⟩ := set3_cells (a := .int .i64 3) (b := .string ⟨nm.toArray⟩) (c := .int .i64 (nv : Int)) ((hB.toBelow.cell (p := ⟨w.heap.size, 0, none⟩) hBw).trans m0) ((hB.toBelow.cell (p := ⟨w.heap.size, 1, none⟩) hBw).trans m1) ((hB.toBelow.cell (p := ⟨w.heap.size, 2, none⟩) hBw).trans m2)
            clear hB
            exact bodyPost_ret (v := .tuple #[.agg #[.int .i64 3, .string ⟨nm.toArray⟩, .int .i64 (nv : Int)], .bool true]) (by simp [results, Tryz.results83, go_sem, s0, s1, s2]) rfl ⟨by rw [hfin.out]; rfl, (by repeat (first | (with_reducible exact Bel.refl _ _) | (with_reducible refine Bel.drew ?_) | (with_reducible refine Bel.drewN ?_ _) | ((with_reducible refine Bel.alloc ?_ ?_ _); rotate_left; focus ((try simp) <;> omega)) | ((with_reducible refine Bel.setCell ?_ ?_ _); rotate_left; focus ((try simp) <;> omega)) | ((with_reducible refine Bel.trans ?_ (Bel.mono (by assumption) ?_)); rotate_left; focus ((try simp) <;> omega))))⟩
    · have hcl := cut_len s.toList 60 [61]
      obtain ⟨nm, hnm⟩ : ∃ nm, (Lib.cut s.toList (60 :: [61])).1 = nm := ⟨_, rfl⟩
      obtain ⟨rs, hrs⟩ : ∃ rs, (Lib.cut s.toList (60 :: [61])).2.1 = rs := ⟨_, rfl⟩
      obtain ⟨fd, hfd⟩ : ∃ fd, (Lib.cut s.toList (60 :: [61])).2.2 = fd := ⟨_, rfl⟩
      have hcx : Hid (∀ W, Bel w.heap.size w W → Calls Tryz.prog 92 #[.string s, .string ⟨(60 :: [61]).toArray⟩] W fun e w' => e = .returned (.tuple #[.string ⟨nm.toArray⟩, .string ⟨rs.toArray⟩, .bool fd]) ∧ ∃ n, w' = W.drewN n) := Lib.hid fun W hb => by
        have h := hcut.out W hb ⟨(60 :: [61]).toArray⟩
        rw [← Lib.toList_data] at h
        rw [show (⟨(60 :: [61]).toArray⟩ : ByteArray).data.toList = 60 :: [61] from rfl, hnm, hrs, hfd] at h
        exact h
      rw [hnm, hrs] at hcl
      have hnum : Hid (∀ W, Calls Tryz.prog 93 #[.string ⟨rs.toArray⟩] W fun e w' => e = .returned (.tuple #[.int .i64 (numL rs), .bool (okD rs)]) ∧ Bel W.heap.size W w') := Lib.hid fun W => by
        have h := number_any ⟨rs.toArray⟩ W (by rw [mk_size]; have := toList_len s; omega)
        rw [mk_toList] at h
        exact h
      have hnam : Hid (∀ W, Calls Tryz.prog 39 #[.string ⟨nm.toArray⟩] W fun e w' => e = .returned (.bool (nL nm)) ∧ Bel W.heap.size W w') := Lib.hid fun W => name_any ⟨nm.toArray⟩ W (by rw [mk_size]; have := toList_len s; omega)
      clear hcl
      rcases fd with _ | _
      · have hnx := Lib.hid (show NoSign s.toList (1 + 1) from ⟨fun h => by first | exact hfd | exact hns.out.1 (by omega), fun h => by first | exact hfd | exact hns.out.2.1 (by omega) | omega, fun h => by first | exact hfd | omega⟩)
        replace hnm := Lib.hid hnm
        replace hrs := Lib.hid hrs
        replace hfd := Lib.hid hfd
        go_wp2_with (go_at_call 92; go_must (refine (hcx.out _ (by repeat (first | (with_reducible exact Bel.refl _ _) | (with_reducible refine Bel.drew ?_) | (with_reducible refine Bel.drewN ?_ _) | ((with_reducible refine Bel.alloc ?_ ?_ _); rotate_left; focus ((try simp) <;> omega)) | ((with_reducible refine Bel.setCell ?_ ?_ _); rotate_left; focus ((try simp) <;> omega)) | ((with_reducible refine Bel.trans ?_ (Bel.mono (by assumption) ?_)); rotate_left; focus ((try simp) <;> omega))))).mono ?_; rintro e w2 ⟨rfl, nq, rfl⟩))
        go_roundw
        case rel => exact ⟨1 + 1, by omega, by first | rfl | go_num, hnx.out, ⟨by go_simp, by go_simp, by go_simp⟩, fun j => by go_simp, by simp; omega, (by repeat (first | (with_reducible exact Bel.refl _ _) | (with_reducible refine Bel.drew ?_) | (with_reducible refine Bel.drewN ?_ _) | ((with_reducible refine Bel.alloc ?_ ?_ _); rotate_left; focus ((try simp) <;> omega)) | ((with_reducible refine Bel.setCell ?_ ?_ _); rotate_left; focus ((try simp) <;> omega)) | ((with_reducible refine Bel.trans ?_ (Bel.mono (by assumption) ?_)); rotate_left; focus ((try simp) <;> omega))))⟩
        case measure => simp [intOf]
      · have hco : compL s.toList = partL 4 nm rs := by rw [← hnm, ← hrs]; exact comp_2 (hns.out.1 (by omega)) hfd
        rcases ho : okD rs with _ | _
        · have hfin := Lib.hid (show compL s.toList = (0, [], 0) by rw [hco]; exact part_no (Or.inl ho))
          rw [ho] at hnum
          replace hnm := Lib.hid hnm
          replace hrs := Lib.hid hrs
          replace hfd := Lib.hid hfd
          replace hco := Lib.hid hco
          replace ho := Lib.hid ho
          go_wp2_with (first | (go_at_call 92; go_must (refine (hcx.out _ (by repeat (first | (with_reducible exact Bel.refl _ _) | (with_reducible refine Bel.drew ?_) | (with_reducible refine Bel.drewN ?_ _) | ((with_reducible refine Bel.alloc ?_ ?_ _); rotate_left; focus ((try simp) <;> omega)) | ((with_reducible refine Bel.setCell ?_ ?_ _); rotate_left; focus ((try simp) <;> omega)) | ((with_reducible refine Bel.trans ?_ (Bel.mono (by assumption) ?_)); rotate_left; focus ((try simp) <;> omega))))).mono ?_; rintro e w2 ⟨rfl, nq, rfl⟩)) | (go_at_call 93; go_must (refine (hnum.out _).mono ?_; rintro e w3 ⟨rfl, hb3⟩; have hz3 := hb3.size; (try simp at hz3); obtain ⟨hc3, hf3⟩ := blk_at hb3.toBelow w.heap.size (by (try simp) <;> omega); obtain ⟨hd3, he3⟩ := blk_at hb3.toBelow wr.heap.size (by (try simp) <;> omega))))
          have hB : Bel wr.heap.size wr w3 := (by repeat (first | (with_reducible exact Bel.refl _ _) | (with_reducible refine Bel.drew ?_) | (with_reducible refine Bel.drewN ?_ _) | ((with_reducible refine Bel.alloc ?_ ?_ _); rotate_left; focus ((try simp) <;> omega)) | ((with_reducible refine Bel.setCell ?_ ?_ _); rotate_left; focus ((try simp) <;> omega)) | ((with_reducible refine Bel.trans ?_ (Bel.mono (by assumption) ?_)); rotate_left; focus ((try simp) <;> omega))))
          obtain ⟨s0, s1, s2⟩ := set3_cells (a := .int .i64 0) (b := .string ⟨#[]⟩) (c := .int .i64 0) ((hB.toBelow.cell (p := ⟨w.heap.size, 0, none⟩) hBw).trans m0) ((hB.toBelow.cell (p := ⟨w.heap.size, 1, none⟩) hBw).trans m1) ((hB.toBelow.cell (p := ⟨w.heap.size, 2, none⟩) hBw).trans m2)
          clear hB
          exact bodyPost_ret (v := .tuple #[.agg #[.int .i64 0, .string ⟨#[]⟩, .int .i64 0], .bool false]) (by simp [results, Tryz.results83, go_sem, s0, s1, s2]) rfl ⟨by rw [hfin.out]; rfl, (by repeat (first | (with_reducible exact Bel.refl _ _) | (with_reducible refine Bel.drew ?_) | (with_reducible refine Bel.drewN ?_ _) | ((with_reducible refine Bel.alloc ?_ ?_ _); rotate_left; focus ((try simp) <;> omega)) | ((with_reducible refine Bel.setCell ?_ ?_ _); rotate_left; focus ((try simp) <;> omega)) | ((with_reducible refine Bel.trans ?_ (Bel.mono (by assumption) ?_)); rotate_left; focus ((try simp) <;> omega))))⟩
        · rcases hn : nL nm with _ | _
          · have hfin := Lib.hid (show compL s.toList = (0, [], 0) by rw [hco]; exact part_no (Or.inr hn))
            rw [ho] at hnum
            rw [hn] at hnam
            replace hnm := Lib.hid hnm
            replace hrs := Lib.hid hrs
            replace hfd := Lib.hid hfd
            replace hco := Lib.hid hco
            replace ho := Lib.hid ho
            replace hn := Lib.hid hn
            go_wp2_with (first | (go_at_call 92; go_must (refine (hcx.out _ (by repeat (first | (with_reducible exact Bel.refl _ _) | (with_reducible refine Bel.drew ?_) | (with_reducible refine Bel.drewN ?_ _) | ((with_reducible refine Bel.alloc ?_ ?_ _); rotate_left; focus ((try simp) <;> omega)) | ((with_reducible refine Bel.setCell ?_ ?_ _); rotate_left; focus ((try simp) <;> omega)) | ((with_reducible refine Bel.trans ?_ (Bel.mono (by assumption) ?_)); rotate_left; focus ((try simp) <;> omega))))).mono ?_; rintro e w2 ⟨rfl, nq, rfl⟩)) | (go_at_call 93; go_must (refine (hnum.out _).mono ?_; rintro e w3 ⟨rfl, hb3⟩; have hz3 := hb3.size; (try simp at hz3); obtain ⟨hc3, hf3⟩ := blk_at hb3.toBelow w.heap.size (by (try simp) <;> omega); obtain ⟨hd3, he3⟩ := blk_at hb3.toBelow wr.heap.size (by (try simp) <;> omega))) | (go_at_call 39; go_must (refine (hnam.out _).mono ?_; rintro e w4 ⟨rfl, hb4⟩; have hz4 := hb4.size; (try simp at hz4); obtain ⟨hc4, hf4⟩ := blk_at hb4.toBelow w.heap.size (by (try simp) <;> omega); obtain ⟨hd4, he4⟩ := blk_at hb4.toBelow wr.heap.size (by (try simp) <;> omega))))
            have hB : Bel wr.heap.size wr w4 := (by repeat (first | (with_reducible exact Bel.refl _ _) | (with_reducible refine Bel.drew ?_) | (with_reducible refine Bel.drewN ?_ _) | ((with_reducible refine Bel.alloc ?_ ?_ _); rotate_left; focus ((try simp) <;> omega)) | ((with_reducible refine Bel.setCell ?_ ?_ _); rotate_left; focus ((try simp) <;> omega)) | ((with_reducible refine Bel.trans ?_ (Bel.mono (by assumption) ?_)); rotate_left; focus ((try simp) <;> omega))))
            obtain ⟨s0, s1, s2⟩ := set3_cells (a := .int .i64 0) (b := .string ⟨#[]⟩) (c := .int .i64 0) ((hB.toBelow.cell (p := ⟨w.heap.size, 0, none⟩) hBw).trans m0) ((hB.toBelow.cell (p := ⟨w.heap.size, 1, none⟩) hBw).trans m1) ((hB.toBelow.cell (p := ⟨w.heap.size, 2, none⟩) hBw).trans m2)
            clear hB
            exact bodyPost_ret (v := .tuple #[.agg #[.int .i64 0, .string ⟨#[]⟩, .int .i64 0], .bool false]) (by simp [results, Tryz.results83, go_sem, s0, s1, s2]) rfl ⟨by rw [hfin.out]; rfl, (by repeat (first | (with_reducible exact Bel.refl _ _) | (with_reducible refine Bel.drew ?_) | (with_reducible refine Bel.drewN ?_ _) | ((with_reducible refine Bel.alloc ?_ ?_ _); rotate_left; focus ((try simp) <;> omega)) | ((with_reducible refine Bel.setCell ?_ ?_ _); rotate_left; focus ((try simp) <;> omega)) | ((with_reducible refine Bel.trans ?_ (Bel.mono (by assumption) ?_)); rotate_left; focus ((try simp) <;> omega))))⟩
          · have hfin := Lib.hid (show compL s.toList = (4, nm, numL rs) by rw [hco, num_ok ho]; unfold partL; rw [if_pos ⟨ho, hn⟩])
            rw [ho] at hnum
            rw [hn] at hnam
            generalize numL rs = nv at hnum hfin
            replace hnm := Lib.hid hnm
            replace hrs := Lib.hid hrs
            replace hfd := Lib.hid hfd
            replace hco := Lib.hid hco
            replace ho := Lib.hid ho
            replace hn := Lib.hid hn
            go_wp2_with (first | (go_at_call 92; go_must (refine (hcx.out _ (by repeat (first | (with_reducible exact Bel.refl _ _) | (with_reducible refine Bel.drew ?_) | (with_reducible refine Bel.drewN ?_ _) | ((with_reducible refine Bel.alloc ?_ ?_ _); rotate_left; focus ((try simp) <;> omega)) | ((with_reducible refine Bel.setCell ?_ ?_ _); rotate_left; focus ((try simp) <;> omega)) | ((with_reducible refine Bel.trans ?_ (Bel.mono (by assumption) ?_)); rotate_left; focus ((try simp) <;> omega))))).mono ?_; rintro e w2 ⟨rfl, nq, rfl⟩)) | (go_at_call 93; go_must (refine (hnum.out _).mono ?_; rintro e w3 ⟨rfl, hb3⟩; have hz3 := hb3.size; (try simp at hz3); obtain ⟨hc3, hf3⟩ := blk_at hb3.toBelow w.heap.size (by (try simp) <;> omega); obtain ⟨hd3, he3⟩ := blk_at hb3.toBelow wr.heap.size (by (try simp) <;> omega))) | (go_at_call 39; go_must (refine (hnam.out _).mono ?_; rintro e w4 ⟨rfl, hb4⟩; have hz4 := hb4.size; (try simp at hz4); obtain ⟨hc4, hf4⟩ := blk_at hb4.toBelow w.heap.size (by (try simp) <;> omega); obtain ⟨hd4, he4⟩ := blk_at hb4.toBelow wr.heap.size (by (try simp) <;> omega))))
            have hB : Bel wr.heap.size wr w4 := (by repeat (first | (with_reducible exact Bel.refl _ _) | (with_reducible refine Bel.drew ?_) | (with_reducible refine Bel.drewN ?_ _) | ((with_reducible refine Bel.alloc ?_ ?_ _); rotate_left; focus ((try simp) <;> omega)) | ((with_reducible refine Bel.setCell ?_ ?_ _); rotate_left; focus ((try simp) <;> omega)) | ((with_reducible refine Bel.trans ?_ (Bel.mono (by assumption) ?_)); rotate_left; focus ((try simp) <;> omega))))
            obtain ⟨s0, s1, s2⟩ := set3_cells (a := .int .i64 4) (b := .string ⟨nm.toArray⟩) (c := .int .i64 (nv : Int)) ((hB.toBelow.cell (p := ⟨w.heap.size, 0, none⟩) hBw).trans m0) ((hB.toBelow.cell (p := ⟨w.heap.size, 1, none⟩) hBw).trans m1) ((hB.toBelow.cell (p := ⟨w.heap.size, 2, none⟩) hBw).trans m2)
            clear hB
            exact bodyPost_ret (v := .tuple #[.agg #[.int .i64 4, .string ⟨nm.toArray⟩, .int .i64 (nv : Int)], .bool true]) (by simp [results, Tryz.results83, go_sem, s0, s1, s2]) rfl ⟨by rw [hfin.out]; rfl, (by repeat (first | (with_reducible exact Bel.refl _ _) | (with_reducible refine Bel.drew ?_) | (with_reducible refine Bel.drewN ?_ _) | ((with_reducible refine Bel.alloc ?_ ?_ _); rotate_left; focus ((try simp) <;> omega)) | ((with_reducible refine Bel.setCell ?_ ?_ _); rotate_left; focus ((try simp) <;> omega)) | ((with_reducible refine Bel.trans ?_ (Bel.mono (by assumption) ?_)); rotate_left; focus ((try simp) <;> omega))))⟩
    · have hcl := cut_len s.toList 61 []
      obtain ⟨nm, hnm⟩ : ∃ nm, (Lib.cut s.toList (61 :: [])).1 = nm := ⟨_, rfl⟩
      obtain ⟨rs, hrs⟩ : ∃ rs, (Lib.cut s.toList (61 :: [])).2.1 = rs := ⟨_, rfl⟩
      obtain ⟨fd, hfd⟩ : ∃ fd, (Lib.cut s.toList (61 :: [])).2.2 = fd := ⟨_, rfl⟩
      have hcx : Hid (∀ W, Bel w.heap.size w W → Calls Tryz.prog 92 #[.string s, .string ⟨(61 :: []).toArray⟩] W fun e w' => e = .returned (.tuple #[.string ⟨nm.toArray⟩, .string ⟨rs.toArray⟩, .bool fd]) ∧ ∃ n, w' = W.drewN n) := Lib.hid fun W hb => by
        have h := hcut.out W hb ⟨(61 :: []).toArray⟩
        rw [← Lib.toList_data] at h
        rw [show (⟨(61 :: []).toArray⟩ : ByteArray).data.toList = 61 :: [] from rfl, hnm, hrs, hfd] at h
        exact h
      rw [hnm, hrs] at hcl
      have hnum : Hid (∀ W, Calls Tryz.prog 93 #[.string ⟨rs.toArray⟩] W fun e w' => e = .returned (.tuple #[.int .i64 (numL rs), .bool (okD rs)]) ∧ Bel W.heap.size W w') := Lib.hid fun W => by
        have h := number_any ⟨rs.toArray⟩ W (by rw [mk_size]; have := toList_len s; omega)
        rw [mk_toList] at h
        exact h
      have hnam : Hid (∀ W, Calls Tryz.prog 39 #[.string ⟨nm.toArray⟩] W fun e w' => e = .returned (.bool (nL nm)) ∧ Bel W.heap.size W w') := Lib.hid fun W => name_any ⟨nm.toArray⟩ W (by rw [mk_size]; have := toList_len s; omega)
      clear hcl
      rcases fd with _ | _
      · have hnx := Lib.hid (show NoSign s.toList (2 + 1) from ⟨fun h => by first | exact hfd | exact hns.out.1 (by omega), fun h => by first | exact hfd | exact hns.out.2.1 (by omega) | omega, fun h => by first | exact hfd | omega⟩)
        replace hnm := Lib.hid hnm
        replace hrs := Lib.hid hrs
        replace hfd := Lib.hid hfd
        go_wp2_with (go_at_call 92; go_must (refine (hcx.out _ (by repeat (first | (with_reducible exact Bel.refl _ _) | (with_reducible refine Bel.drew ?_) | (with_reducible refine Bel.drewN ?_ _) | ((with_reducible refine Bel.alloc ?_ ?_ _); rotate_left; focus ((try simp) <;> omega)) | ((with_reducible refine Bel.setCell ?_ ?_ _); rotate_left; focus ((try simp) <;> omega)) | ((with_reducible refine Bel.trans ?_ (Bel.mono (by assumption) ?_)); rotate_left; focus ((try simp) <;> omega))))).mono ?_; rintro e w2 ⟨rfl, nq, rfl⟩))
        go_roundw
        case rel => exact ⟨2 + 1, by omega, by first | rfl | go_num, hnx.out, ⟨by go_simp, by go_simp, by go_simp⟩, fun j => by go_simp, by simp; omega, (by repeat (first | (with_reducible exact Bel.refl _ _) | (with_reducible refine Bel.drew ?_) | (with_reducible refine Bel.drewN ?_ _) | ((with_reducible refine Bel.alloc ?_ ?_ _); rotate_left; focus ((try simp) <;> omega)) | ((with_reducible refine Bel.setCell ?_ ?_ _); rotate_left; focus ((try simp) <;> omega)) | ((with_reducible refine Bel.trans ?_ (Bel.mono (by assumption) ?_)); rotate_left; focus ((try simp) <;> omega))))⟩
        case measure => simp [intOf]
      · have hco : compL s.toList = partL 5 nm rs := by rw [← hnm, ← hrs]; exact comp_3 (hns.out.1 (by omega)) (hns.out.2.1 (by omega)) hfd
        rcases ho : okD rs with _ | _
        · have hfin := Lib.hid (show compL s.toList = (0, [], 0) by rw [hco]; exact part_no (Or.inl ho))
          rw [ho] at hnum
          replace hnm := Lib.hid hnm
          replace hrs := Lib.hid hrs
          replace hfd := Lib.hid hfd
          replace hco := Lib.hid hco
          replace ho := Lib.hid ho
          go_wp2_with (first | (go_at_call 92; go_must (refine (hcx.out _ (by repeat (first | (with_reducible exact Bel.refl _ _) | (with_reducible refine Bel.drew ?_) | (with_reducible refine Bel.drewN ?_ _) | ((with_reducible refine Bel.alloc ?_ ?_ _); rotate_left; focus ((try simp) <;> omega)) | ((with_reducible refine Bel.setCell ?_ ?_ _); rotate_left; focus ((try simp) <;> omega)) | ((with_reducible refine Bel.trans ?_ (Bel.mono (by assumption) ?_)); rotate_left; focus ((try simp) <;> omega))))).mono ?_; rintro e w2 ⟨rfl, nq, rfl⟩)) | (go_at_call 93; go_must (refine (hnum.out _).mono ?_; rintro e w3 ⟨rfl, hb3⟩; have hz3 := hb3.size; (try simp at hz3); obtain ⟨hc3, hf3⟩ := blk_at hb3.toBelow w.heap.size (by (try simp) <;> omega); obtain ⟨hd3, he3⟩ := blk_at hb3.toBelow wr.heap.size (by (try simp) <;> omega))))
          have hB : Bel wr.heap.size wr w3 := (by repeat (first | (with_reducible exact Bel.refl _ _) | (with_reducible refine Bel.drew ?_) | (with_reducible refine Bel.drewN ?_ _) | ((with_reducible refine Bel.alloc ?_ ?_ _); rotate_left; focus ((try simp) <;> omega)) | ((with_reducible refine Bel.setCell ?_ ?_ _); rotate_left; focus ((try simp) <;> omega)) | ((with_reducible refine Bel.trans ?_ (Bel.mono (by assumption) ?_)); rotate_left; focus ((try simp) <;> omega))))
          obtain ⟨s0, s1, s2⟩ := set3_cells (a := .int .i64 0) (b := .string ⟨#[]⟩) (c := .int .i64 0) ((hB.toBelow.cell (p := ⟨w.heap.size, 0, none⟩) hBw).trans m0) ((hB.toBelow.cell (p := ⟨w.heap.size, 1, none⟩) hBw).trans m1) ((hB.toBelow.cell (p := ⟨w.heap.size, 2, none⟩) hBw).trans m2)
          clear hB
          exact bodyPost_ret (v := .tuple #[.agg #[.int .i64 0, .string ⟨#[]⟩, .int .i64 0], .bool false]) (by simp [results, Tryz.results83, go_sem, s0, s1, s2]) rfl ⟨by rw [hfin.out]; rfl, (by repeat (first | (with_reducible exact Bel.refl _ _) | (with_reducible refine Bel.drew ?_) | (with_reducible refine Bel.drewN ?_ _) | ((with_reducible refine Bel.alloc ?_ ?_ _); rotate_left; focus ((try simp) <;> omega)) | ((with_reducible refine Bel.setCell ?_ ?_ _); rotate_left; focus ((try simp) <;> omega)) | ((with_reducible refine Bel.trans ?_ (Bel.mono (by assumption) ?_)); rotate_left; focus ((try simp) <;> omega))))⟩
        · rcases hn : nL nm with _ | _
          · have hfin := Lib.hid (show compL s.toList = (0, [], 0) by rw [hco]; exact part_no (Or.inr hn))
            rw [ho] at hnum
            rw [hn] at hnam
            replace hnm := Lib.hid hnm
            replace hrs := Lib.hid hrs
            replace hfd := Lib.hid hfd
            replace hco := Lib.hid hco
            replace ho := Lib.hid ho
            replace hn := Lib.hid hn
            go_wp2_with (first | (go_at_call 92; go_must (refine (hcx.out _ (by repeat (first | (with_reducible exact Bel.refl _ _) | (with_reducible refine Bel.drew ?_) | (with_reducible refine Bel.drewN ?_ _) | ((with_reducible refine Bel.alloc ?_ ?_ _); rotate_left; focus ((try simp) <;> omega)) | ((with_reducible refine Bel.setCell ?_ ?_ _); rotate_left; focus ((try simp) <;> omega)) | ((with_reducible refine Bel.trans ?_ (Bel.mono (by assumption) ?_)); rotate_left; focus ((try simp) <;> omega))))).mono ?_; rintro e w2 ⟨rfl, nq, rfl⟩)) | (go_at_call 93; go_must (refine (hnum.out _).mono ?_; rintro e w3 ⟨rfl, hb3⟩; have hz3 := hb3.size; (try simp at hz3); obtain ⟨hc3, hf3⟩ := blk_at hb3.toBelow w.heap.size (by (try simp) <;> omega); obtain ⟨hd3, he3⟩ := blk_at hb3.toBelow wr.heap.size (by (try simp) <;> omega))) | (go_at_call 39; go_must (refine (hnam.out _).mono ?_; rintro e w4 ⟨rfl, hb4⟩; have hz4 := hb4.size; (try simp at hz4); obtain ⟨hc4, hf4⟩ := blk_at hb4.toBelow w.heap.size (by (try simp) <;> omega); obtain ⟨hd4, he4⟩ := blk_at hb4.toBelow wr.heap.size (by (try simp) <;> omega))))
            have hB : Bel wr.heap.size wr w4 := (by repeat (first | (with_reducible exact Bel.refl _ _) | (with_reducible refine Bel.drew ?_) | (with_reducible refine Bel.drewN ?_ _) | ((with_reducible refine Bel.alloc ?_ ?_ _); rotate_left; focus ((try simp) <;> omega)) | ((with_reducible refine Bel.setCell ?_ ?_ _); rotate_left; focus ((try simp) <;> omega)) | ((with_reducible refine Bel.trans ?_ (Bel.mono (by assumption) ?_)); rotate_left; focus ((try simp) <;> omega))))
            obtain ⟨s0, s1, s2⟩ := set3_cells (a := .int .i64 0) (b := .string ⟨#[]⟩) (c := .int .i64 0) ((hB.toBelow.cell (p := ⟨w.heap.size, 0, none⟩) hBw).trans m0) ((hB.toBelow.cell (p := ⟨w.heap.size, 1, none⟩) hBw).trans m1) ((hB.toBelow.cell (p := ⟨w.heap.size, 2, none⟩) hBw).trans m2)
            clear hB
            exact bodyPost_ret (v := .tuple #[.agg #[.int .i64 0, .string ⟨#[]⟩, .int .i64 0], .bool false]) (by simp [results, Tryz.results83, go_sem, s0, s1, s2]) rfl ⟨by rw [hfin.out]; rfl, (by repeat (first | (with_reducible exact Bel.refl _ _) | (with_reducible refine Bel.drew ?_) | (with_reducible refine Bel.drewN ?_ _) | ((with_reducible refine Bel.alloc ?_ ?_ _); rotate_left; focus ((try simp) <;> omega)) | ((with_reducible refine Bel.setCell ?_ ?_ _); rotate_left; focus ((try simp) <;> omega)) | ((with_reducible refine Bel.trans ?_ (Bel.mono (by assumption) ?_)); rotate_left; focus ((try simp) <;> omega))))⟩
          · have hfin := Lib.hid (show compL s.toList = (5, nm, numL rs) by rw [hco, num_ok ho]; unfold partL; rw [if_pos ⟨ho, hn⟩])
            rw [ho] at hnum
            rw [hn] at hnam
            generalize numL rs = nv at hnum hfin
            replace hnm := Lib.hid hnm
            replace hrs := Lib.hid hrs
            replace hfd := Lib.hid hfd
            replace hco := Lib.hid hco
            replace ho := Lib.hid ho
            replace hn := Lib.hid hn
            go_wp2_with (first | (go_at_call 92; go_must (refine (hcx.out _ (by repeat (first | (with_reducible exact Bel.refl _ _) | (with_reducible refine Bel.drew ?_) | (with_reducible refine Bel.drewN ?_ _) | ((with_reducible refine Bel.alloc ?_ ?_ _); rotate_left; focus ((try simp) <;> omega)) | ((with_reducible refine Bel.setCell ?_ ?_ _); rotate_left; focus ((try simp) <;> omega)) | ((with_reducible refine Bel.trans ?_ (Bel.mono (by assumption) ?_)); rotate_left; focus ((try simp) <;> omega))))).mono ?_; rintro e w2 ⟨rfl, nq, rfl⟩)) | (go_at_call 93; go_must (refine (hnum.out _).mono ?_; rintro e w3 ⟨rfl, hb3⟩; have hz3 := hb3.size; (try simp at hz3); obtain ⟨hc3, hf3⟩ := blk_at hb3.toBelow w.heap.size (by (try simp) <;> omega); obtain ⟨hd3, he3⟩ := blk_at hb3.toBelow wr.heap.size (by (try simp) <;> omega))) | (go_at_call 39; go_must (refine (hnam.out _).mono ?_; rintro e w4 ⟨rfl, hb4⟩; have hz4 := hb4.size; (try simp at hz4); obtain ⟨hc4, hf4⟩ := blk_at hb4.toBelow w.heap.size (by (try simp) <;> omega); obtain ⟨hd4, he4⟩ := blk_at hb4.toBelow wr.heap.size (by (try simp) <;> omega))))
            have hB : Bel wr.heap.size wr w4 := (by repeat (first | (with_reducible exact Bel.refl _ _) | (with_reducible refine Bel.drew ?_) | (with_reducible refine Bel.drewN ?_ _) | ((with_reducible refine Bel.alloc ?_ ?_ _); rotate_left; focus ((try simp) <;> omega)) | ((with_reducible refine Bel.setCell ?_ ?_ _); rotate_left; focus ((try simp) <;> omega)) | ((with_reducible refine Bel.trans ?_ (Bel.mono (by assumption) ?_)); rotate_left; focus ((try simp) <;> omega))))
            obtain ⟨s0, s1, s2⟩ := set3_cells (a := .int .i64 5) (b := .string ⟨nm.toArray⟩) (c := .int .i64 (nv : Int)) ((hB.toBelow.cell (p := ⟨w.heap.size, 0, none⟩) hBw).trans m0) ((hB.toBelow.cell (p := ⟨w.heap.size, 1, none⟩) hBw).trans m1) ((hB.toBelow.cell (p := ⟨w.heap.size, 2, none⟩) hBw).trans m2)
            clear hB
            exact bodyPost_ret (v := .tuple #[.agg #[.int .i64 5, .string ⟨nm.toArray⟩, .int .i64 (nv : Int)], .bool true]) (by simp [results, Tryz.results83, go_sem, s0, s1, s2]) rfl ⟨by rw [hfin.out]; rfl, (by repeat (first | (with_reducible exact Bel.refl _ _) | (with_reducible refine Bel.drew ?_) | (with_reducible refine Bel.drewN ?_ _) | ((with_reducible refine Bel.alloc ?_ ?_ _); rotate_left; focus ((try simp) <;> omega)) | ((with_reducible refine Bel.setCell ?_ ?_ _); rotate_left; focus ((try simp) <;> omega)) | ((with_reducible refine Bel.trans ?_ (Bel.mono (by assumption) ?_)); rotate_left; focus ((try simp) <;> omega))))⟩
    · have hfin := Lib.hid (comp_0 (hns.out.1 (by omega)) (hns.out.2.1 (by omega)) (hns.out.2.2 (by omega)))
      go_wp2_with fail
      have hB : Bel wr.heap.size wr wr := (by repeat (first | (with_reducible exact Bel.refl _ _) | (with_reducible refine Bel.drew ?_) | (with_reducible refine Bel.drewN ?_ _) | ((with_reducible refine Bel.alloc ?_ ?_ _); rotate_left; focus ((try simp) <;> omega)) | ((with_reducible refine Bel.setCell ?_ ?_ _); rotate_left; focus ((try simp) <;> omega)) | ((with_reducible refine Bel.trans ?_ (Bel.mono (by assumption) ?_)); rotate_left; focus ((try simp) <;> omega))))
      obtain ⟨s0, s1, s2⟩ := set3_cells (a := .int .i64 0) (b := .string ⟨#[]⟩) (c := .int .i64 0) ((hB.toBelow.cell (p := ⟨w.heap.size, 0, none⟩) hBw).trans m0) ((hB.toBelow.cell (p := ⟨w.heap.size, 1, none⟩) hBw).trans m1) ((hB.toBelow.cell (p := ⟨w.heap.size, 2, none⟩) hBw).trans m2)
      clear hB
      exact bodyPost_ret (v := .tuple #[.agg #[.int .i64 0, .string ⟨#[]⟩, .int .i64 0], .bool false]) (by simp [results, Tryz.results83, go_sem, s0, s1, s2]) rfl ⟨by rw [hfin.out]; rfl, (by repeat (first | (with_reducible exact Bel.refl _ _) | (with_reducible refine Bel.drew ?_) | (with_reducible refine Bel.drewN ?_ _) | ((with_reducible refine Bel.alloc ?_ ?_ _); rotate_left; focus ((try simp) <;> omega)) | ((with_reducible refine Bel.setCell ?_ ?_ _); rotate_left; focus ((try simp) <;> omega)) | ((with_reducible refine Bel.trans ?_ (Bel.mono (by assumption) ?_)); rotate_left; focus ((try simp) <;> omega))))⟩
end Go.Proofs.YtnahbfmbmpoljaaGreatDoor

namespace Go.Proofs.YtnahbfmbmpoljaaGreatDoor
open Go.RowKit

theorem mk_str (s : ByteArray) : (⟨s.toList.toArray⟩ : ByteArray) = s := toList_inj (mk_toList s.toList)
theorem trim_len (s p : List UInt8) : (Lib.trimPrefix s p).length ≤ s.length := by
  unfold Lib.trimPrefix
  split
  · rw [List.length_drop]; omega
  · omega
theorem parse_1 {s : List UInt8} (h : nL s = true) : parseL s = (1, s, 0) := by unfold parseL; rw [if_pos h]
theorem parse_2 {s : List UInt8} (h : nL s = false) (h1 : Lib.hasPrefix s [33] = true) (h2 : nL (Lib.trimPrefix s [33]) = true) : parseL s = (2, Lib.trimPrefix s [33], 0) := by unfold parseL; rw [if_neg (by rw [h]; decide), if_pos ⟨h1, h2⟩]
theorem parse_3 {s : List UInt8} (h : nL s = false) (h1 : Lib.hasPrefix s [33] = false ∨ nL (Lib.trimPrefix s [33]) = false) : parseL s = compL s := by
  unfold parseL; rw [if_neg (by rw [h]; decide), if_neg]
  rintro ⟨h2, h3⟩
  rcases h1 with h1 | h1
  · rw [h1] at h2; cases h2
  · rw [h1] at h3; cases h3
set_option maxRecDepth 100000 in
set_option maxHeartbeats 4000000 in
theorem parse_any (s : ByteArray) (w : World) (hs : s.size < 4294967281) (hG : Glob w) : Calls Tryz.prog 69 #[.string s] w fun e w' => e = .returned (tv (parseL s.toList)) ∧ Bel w.heap.size w w' := by
  have hlen := toList_len s
  have hcp : Hid (∀ W, Calls Tryz.prog 82 #[.string s, .string ⟨#[33]⟩] W fun e w' => e = .returned (.tuple #[.string ⟨(Lib.trimPrefix s.toList [33]).toArray⟩, .bool (Lib.hasPrefix s.toList [33])]) ∧ w' = W) := Lib.hid fun W => by
    have h := Tryz.strings_CutPrefix s ⟨#[33]⟩ W
    rw [← Lib.toList_data] at h
    exact h
  have hcm0 : Hid (∀ W, Bel w.heap.size w W → Calls Tryz.prog 83 #[.string s] W fun e w' => e = .returned (.tuple #[tv (compL s.toList), .bool (decide ((compL s.toList).1 ≠ 0))]) ∧ Bel W.heap.size W w') := Lib.hid fun W hb => compared_any s W hs (hG.bel hb (Nat.le_refl _))
  have hnm0 := fun W => name_any s W (by omega)
  rw [← nL_str] at hnm0
  have hn20 := fun W => name_any ⟨(Lib.trimPrefix s.toList [33]).toArray⟩ W (by rw [mk_size]; have := trim_len s.toList [33]; omega)
  have htn : ∀ l : List UInt8, nameB ⟨l.toArray⟩ = nL l := fun _ => rfl
  rw [htn] at hn20
  rcases h1 : nL s.toList with _ | _
  · rw [h1] at hnm0
    have hnm := Lib.hid hnm0
    clear hnm0
    rcases h2 : Lib.hasPrefix s.toList [33] with _ | _
    · have hfin := parse_3 h1 (Or.inl h2)
      rw [h2] at hcp
      clear hn20
      obtain ⟨⟨f, nm, n⟩, hp⟩ : ∃ p, compL s.toList = p := ⟨_, rfl⟩
      rw [hp] at hcm0 hfin
      replace hfin := Lib.hid hfin
      have hcm : Hid (∀ W, Bel w.heap.size w W → Calls Tryz.prog 83 #[.string s] W fun e w' => e = .returned (.tuple #[.agg #[.int .i64 (f : Int), .string ⟨nm.toArray⟩, .int .i64 (n : Int)], .bool (decide (f ≠ 0))]) ∧ Bel W.heap.size W w') := Lib.hid hcm0.out
      clear hcm0
      replace hp := Lib.hid hp
      generalize Lib.trimPrefix s.toList [33] = t at *
      replace h1 := Lib.hid h1
      replace h2 := Lib.hid h2
      replace hlen := Lib.hid hlen
      go_enter Tryz.func69, Tryz.ntmps69
      go_wp2_with (first
        | (go_at_call 39; with_reducible refine (hnm.out _).mono ?_; rintro e w1 ⟨rfl, hb1⟩; have hz1 := hb1.size; (try simp at hz1); obtain ⟨hc1, hf1⟩ := blk_at hb1.toBelow w.heap.size (by (try simp) <;> omega))
        | fail
        | (go_at_call 82; go_must (refine (hcp.out _).mono ?_; rintro e w5 ⟨rfl, hw5⟩; subst hw5))
        | (go_at_call 83; go_must (refine (hcm.out _ (by repeat (first | (with_reducible exact Bel.refl _ _) | (with_reducible refine Bel.drew ?_) | (with_reducible refine Bel.drewN ?_ _) | ((with_reducible refine Bel.alloc ?_ ?_ _); rotate_left; focus ((try simp) <;> omega)) | ((with_reducible refine Bel.setCell ?_ ?_ _); rotate_left; focus ((try simp) <;> omega)) | ((with_reducible refine Bel.trans ?_ (Bel.mono (by assumption) ?_)); rotate_left; focus ((try simp) <;> omega))))).mono ?_; rintro e w3 ⟨rfl, hb3⟩; have hz3 := hb3.size; (try simp at hz3); have hlt3 : w.heap.size < w3.heap.size := (by omega); obtain ⟨hc3, hf3⟩ := blk_at hb3.toBelow w.heap.size (by (try simp) <;> omega))))
      have n0 : w3.cell? ⟨w.heap.size, 0, none⟩ = some (.int .i64 0) := by go_simp
      have n1 : w3.cell? ⟨w.heap.size, 1, none⟩ = some (.string ⟨#[]⟩) := by go_simp
      have n2 : w3.cell? ⟨w.heap.size, 2, none⟩ = some (.int .i64 0) := by go_simp
      obtain ⟨s0, s1, s2⟩ := set3_cells (a := .int .i64 (f : Int)) (b := .string ⟨nm.toArray⟩) (c := .int .i64 (n : Int)) n0 n1 n2
      exact bodyPost_ret (v := .agg #[.int .i64 (f : Int), .string ⟨nm.toArray⟩, .int .i64 (n : Int)]) (by simp [results, Tryz.results69, go_sem, *]) rfl ⟨by rw [hfin.out]; first | rfl | (unfold tv; rw [mk_str]; rfl), (by repeat (first | (with_reducible exact Bel.refl _ _) | (with_reducible refine Bel.drew ?_) | (with_reducible refine Bel.drewN ?_ _) | ((with_reducible refine Bel.alloc ?_ ?_ _); rotate_left; focus ((try simp) <;> omega)) | ((with_reducible refine Bel.setCell ?_ ?_ _); rotate_left; focus ((try simp) <;> omega)) | ((with_reducible refine Bel.trans ?_ (Bel.mono (by assumption) ?_)); rotate_left; focus ((try simp) <;> omega))))⟩
    · rw [h2] at hcp
      rcases h3 : nL (Lib.trimPrefix s.toList [33]) with _ | _
      · have hfin := parse_3 h1 (Or.inr h3)
        rw [h3] at hn20
        have hn2 := Lib.hid hn20
        clear hn20
        obtain ⟨⟨f, nm, n⟩, hp⟩ : ∃ p, compL s.toList = p := ⟨_, rfl⟩
        rw [hp] at hcm0 hfin
        replace hfin := Lib.hid hfin
        have hcm : Hid (∀ W, Bel w.heap.size w W → Calls Tryz.prog 83 #[.string s] W fun e w' => e = .returned (.tuple #[.agg #[.int .i64 (f : Int), .string ⟨nm.toArray⟩, .int .i64 (n : Int)], .bool (decide (f ≠ 0))]) ∧ Bel W.heap.size W w') := Lib.hid hcm0.out
        clear hcm0
        replace hp := Lib.hid hp
        generalize Lib.trimPrefix s.toList [33] = t at *
        replace h1 := Lib.hid h1
        replace h2 := Lib.hid h2
        replace hlen := Lib.hid hlen
        go_enter Tryz.func69, Tryz.ntmps69
        go_wp2_with (first
          | (go_at_call 39; with_reducible refine (hnm.out _).mono ?_; rintro e w1 ⟨rfl, hb1⟩; have hz1 := hb1.size; (try simp at hz1); obtain ⟨hc1, hf1⟩ := blk_at hb1.toBelow w.heap.size (by (try simp) <;> omega))
          | (go_at_call 39; with_reducible refine (hn2.out _).mono ?_; rintro e w2 ⟨rfl, hb2⟩; have hz2 := hb2.size; (try simp at hz2); obtain ⟨hc2, hf2⟩ := blk_at hb2.toBelow w.heap.size (by (try simp) <;> omega))
          | (go_at_call 82; go_must (refine (hcp.out _).mono ?_; rintro e w5 ⟨rfl, hw5⟩; subst hw5))
          | (go_at_call 83; go_must (refine (hcm.out _ (by repeat (first | (with_reducible exact Bel.refl _ _) | (with_reducible refine Bel.drew ?_) | (with_reducible refine Bel.drewN ?_ _) | ((with_reducible refine Bel.alloc ?_ ?_ _); rotate_left; focus ((try simp) <;> omega)) | ((with_reducible refine Bel.setCell ?_ ?_ _); rotate_left; focus ((try simp) <;> omega)) | ((with_reducible refine Bel.trans ?_ (Bel.mono (by assumption) ?_)); rotate_left; focus ((try simp) <;> omega))))).mono ?_; rintro e w3 ⟨rfl, hb3⟩; have hz3 := hb3.size; (try simp at hz3); have hlt3 : w.heap.size < w3.heap.size := (by omega); obtain ⟨hc3, hf3⟩ := blk_at hb3.toBelow w.heap.size (by (try simp) <;> omega))))
        have n0 : w3.cell? ⟨w.heap.size, 0, none⟩ = some (.int .i64 0) := by go_simp
        have n1 : w3.cell? ⟨w.heap.size, 1, none⟩ = some (.string ⟨#[]⟩) := by go_simp
        have n2 : w3.cell? ⟨w.heap.size, 2, none⟩ = some (.int .i64 0) := by go_simp
        obtain ⟨s0, s1, s2⟩ := set3_cells (a := .int .i64 (f : Int)) (b := .string ⟨nm.toArray⟩) (c := .int .i64 (n : Int)) n0 n1 n2
        exact bodyPost_ret (v := .agg #[.int .i64 (f : Int), .string ⟨nm.toArray⟩, .int .i64 (n : Int)]) (by simp [results, Tryz.results69, go_sem, *]) rfl ⟨by rw [hfin.out]; first | rfl | (unfold tv; rw [mk_str]; rfl), (by repeat (first | (with_reducible exact Bel.refl _ _) | (with_reducible refine Bel.drew ?_) | (with_reducible refine Bel.drewN ?_ _) | ((with_reducible refine Bel.alloc ?_ ?_ _); rotate_left; focus ((try simp) <;> omega)) | ((with_reducible refine Bel.setCell ?_ ?_ _); rotate_left; focus ((try simp) <;> omega)) | ((with_reducible refine Bel.trans ?_ (Bel.mono (by assumption) ?_)); rotate_left; focus ((try simp) <;> omega))))⟩
      · have hfin := Lib.hid (parse_2 h1 h2 h3)
        rw [h3] at hn20
        have hn2 := Lib.hid hn20
        clear hn20
        generalize Lib.trimPrefix s.toList [33] = t at hn2 hcp hfin h3
        replace h1 := Lib.hid h1
        replace h2 := Lib.hid h2
        replace h3 := Lib.hid h3
        replace hlen := Lib.hid hlen
        go_enter Tryz.func69, Tryz.ntmps69
        go_wp2_with (first
          | (go_at_call 39; with_reducible refine (hnm.out _).mono ?_; rintro e w1 ⟨rfl, hb1⟩; have hz1 := hb1.size; (try simp at hz1); obtain ⟨hc1, hf1⟩ := blk_at hb1.toBelow w.heap.size (by (try simp) <;> omega))
          | (go_at_call 39; with_reducible refine (hn2.out _).mono ?_; rintro e w2 ⟨rfl, hb2⟩; have hz2 := hb2.size; (try simp at hz2); obtain ⟨hc2, hf2⟩ := blk_at hb2.toBelow w.heap.size (by (try simp) <;> omega))
          | (go_at_call 82; go_must (refine (hcp.out _).mono ?_; rintro e w5 ⟨rfl, hw5⟩; subst hw5)))
        have n0 : w2.cell? ⟨w.heap.size, 0, none⟩ = some (.int .i64 0) := by go_simp
        have n1 : w2.cell? ⟨w.heap.size, 1, none⟩ = some (.string ⟨#[]⟩) := by go_simp
        have n2 : w2.cell? ⟨w.heap.size, 2, none⟩ = some (.int .i64 0) := by go_simp
        obtain ⟨s0, s1, s2⟩ := set3_cells (a := .int .i64 2) (b := .string ⟨t.toArray⟩) (c := .int .i64 0) n0 n1 n2
        exact bodyPost_ret (v := .agg #[.int .i64 2, .string ⟨t.toArray⟩, .int .i64 0]) (by simp [results, Tryz.results69, go_sem, *]) rfl ⟨by rw [hfin.out]; first | rfl | (unfold tv; rw [mk_str]; rfl), (by repeat (first | (with_reducible exact Bel.refl _ _) | (with_reducible refine Bel.drew ?_) | (with_reducible refine Bel.drewN ?_ _) | ((with_reducible refine Bel.alloc ?_ ?_ _); rotate_left; focus ((try simp) <;> omega)) | ((with_reducible refine Bel.setCell ?_ ?_ _); rotate_left; focus ((try simp) <;> omega)) | ((with_reducible refine Bel.trans ?_ (Bel.mono (by assumption) ?_)); rotate_left; focus ((try simp) <;> omega))))⟩
  · rw [h1] at hnm0
    have hfin := Lib.hid (parse_1 h1)
    have hnm := Lib.hid hnm0
    clear hnm0 hn20
    replace h1 := Lib.hid h1
    replace hlen := Lib.hid hlen
    go_enter Tryz.func69, Tryz.ntmps69
    go_wp2_with (first
      | (go_at_call 39; with_reducible refine (hnm.out _).mono ?_; rintro e w1 ⟨rfl, hb1⟩; have hz1 := hb1.size; (try simp at hz1); obtain ⟨hc1, hf1⟩ := blk_at hb1.toBelow w.heap.size (by (try simp) <;> omega)))
    have n0 : w1.cell? ⟨w.heap.size, 0, none⟩ = some (.int .i64 0) := by go_simp
    have n1 : w1.cell? ⟨w.heap.size, 1, none⟩ = some (.string ⟨#[]⟩) := by go_simp
    have n2 : w1.cell? ⟨w.heap.size, 2, none⟩ = some (.int .i64 0) := by go_simp
    obtain ⟨s0, s1, s2⟩ := set3_cells (a := .int .i64 1) (b := .string s) (c := .int .i64 0) n0 n1 n2
    exact bodyPost_ret (v := .agg #[.int .i64 1, .string s, .int .i64 0]) (by simp [results, Tryz.results69, go_sem, *]) rfl ⟨by rw [hfin.out]; first | rfl | (unfold tv; rw [mk_str]; rfl), (by repeat (first | (with_reducible exact Bel.refl _ _) | (with_reducible refine Bel.drew ?_) | (with_reducible refine Bel.drewN ?_ _) | ((with_reducible refine Bel.alloc ?_ ?_ _); rotate_left; focus ((try simp) <;> omega)) | ((with_reducible refine Bel.setCell ?_ ?_ _); rotate_left; focus ((try simp) <;> omega)) | ((with_reducible refine Bel.trans ?_ (Bel.mono (by assumption) ?_)); rotate_left; focus ((try simp) <;> omega))))⟩
end Go.Proofs.YtnahbfmbmpoljaaGreatDoor
