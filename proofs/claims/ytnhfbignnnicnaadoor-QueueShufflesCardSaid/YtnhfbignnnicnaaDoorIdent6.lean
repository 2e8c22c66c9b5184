/-
  The walk of the reference's sorted list of strings.
-/
import Derived.Test.YtnhfbignnnicnaaDoorIdent5p

namespace Go.Proofs.YtnhfbignnnicnaaDoor
open Go.RowKit

theorem own_ne {g' : Nat} {v : Value} (h : v.ownBlock = some g' ∨ v.ownBlock = some (g' + 1)) {g : Nat} (hg : g < g') : some g ≠ v.ownBlock := by
  rcases h with h | h <;> rw [h] <;> simp <;> omega
set_option maxRecDepth 100000 in
set_option maxHeartbeats 2000000 in
theorem rsorted_any (A : Option Addr) (c : Nat) (l : List Str) (w : World) (hr : Rw sE 1 w w.heap.size A l) (hn : l.length * 16 ≤ 140737488355328) :
    Calls Tryd.prog 45 #[.slice A l.length c] w fun e w' => ∃ A' c', e = .returned (.slice A' (srt l).length c') ∧ Rw sE 1 w' w'.heap.size A' (srt l) ∧ Below w.heap.size w w' := by
  obtain ⟨B, hB⟩ : ∃ B, w.heap.size = B := ⟨_, rfl⟩
  rw [hB]
  rw [hB] at hr
  have hB2 := Nat.le_of_eq hB
  have hB3 := Nat.le_of_eq hB.symm
  replace hB := Lib.hid hB
  obtain ⟨i0, hi0, iz0, iz1, iz2⟩ := info_parts cloneS_any_info
  go_enter Tryd.func45, Tryd.ntmps45
  go_wp2_with fail
  go_loopw [3, 4, 5, 6] (fun vo vi _ _ wr => ∃ (k : Nat) (out : List Str) (Ao : Option Addr) (co : Nat), vi = .int .i64 (k : Int) ∧ vo = .slice Ao out.length co ∧ k ≤ l.length ∧ out.length ≤ k ∧ out.length ≤ co ∧ IsSrt cmpS (l.take k) out ∧ Own sE 1 9 wr B vo out ∧ Below B w wr) (fun _ vi _ _ _ => l.length - (intOf vi).toNat)
  case atStart => exact ⟨0, [], none, 0, rfl, rfl, Nat.zero_le _, Nat.le_refl _, Nat.le_refl _, ⟨List.Pairwise.nil, by simp⟩, Own.nil _ _ _, by rw [← hB.out]; exact Below.refl _ _⟩
  case round =>
    obtain ⟨k, out, Ao, co, rfl, rfl, hk, hok, hoc, hsrt, hown, hbw⟩ := hrel
    have hzw := hbw.size
    have hlt := hown.lt
    obtain ⟨_, _, hform, _, hcm, _⟩ := hown.form
    obtain ⟨rfl, rfl⟩ : Ao = _ ∧ co = _ := by simpa using hform
    clear hform
    unfold maxLen at hcm
    replace hsrt := Lib.hid hsrt
    replace hlt := Lib.hid hlt
    by_cases hkl : k < l.length
    · obtain ⟨x, hx⟩ := get_some hkl
      have hx' := Lib.hid hx
      have hro := hown.reads sE_len
      obtain ⟨g, o, rfl, hgB, hq⟩ := hr.str (by omega)
      have hq0 := Lib.hid (hq k x hx)
      have q1 : wr.cell? ⟨g, o + k, none⟩ = some (.string x.1) := by rw [hbw.cell hgB]; exact hq0.out
      have hBw : B ≤ wr.heap.size := by omega
      clear hq hx
      have hq2 := Lib.hid (fun (h : 0 < out.length) => hro.str h)
      have i0' : (0 : Int) ≤ (k : Int) := by omega
      have i1' : (k : Int) < (l.length : Int) := by omega
      go_wp2_with fail
      go_loopw [5] (fun va wq => ∃ a n : Nat, va = .int .i64 (a : Int) ∧ a ≤ out.length ∧ (∀ i y, a ≤ i → out[i]? = some y → cmpS x y < 0) ∧ wq = wr.drewN n) (fun va _ => (intOf va).toNat)
      case atStart => exact ⟨out.length, 0, rfl, Nat.le_refl _, (fun i y hi hy => by rw [List.getElem?_eq_none hi] at hy; cases hy), rfl⟩
      case round =>
        obtain ⟨a, n, rfl, ha, hhi, rfl⟩ := hrel
        replace hhi := Lib.hid hhi
        rcases Nat.eq_zero_or_pos a with h0 | h0
        · subst h0
          go_wp2_with fail
          go_quiet (fail)
          go_wp2_with fail
          go_quiet (fail)
          go_wp2_with (first
            | (at_builtin
               refine wpList_append_rw _ rfl (.tmp 46) (.tmp 49) _ rfl sE_len sE_one B 9 i0 _ 16 Tryd.underlying25 hi0 iz0 iz1 iz2 rfl (by omega) (.slice (some ⟨wr.heap.size, 0, none⟩) 0 0) [] rfl
                 ?_ wr.heap.size Ao (0) co (out.take (0)) (by rw [List.length_take]; omega) rfl ?_ ?_ ?_ ?_ ?_
               · exact Own.lit (enc := sE) (l := []) #[] hBw (by simp) (by simp) sE_len
               · exact (hro.take.drewN _).alloc (Nat.le_refl _) _
               · (try simp [maxLen]) <;> omega
               · (try simp) <;> omega
               · (try simp) <;> omega
               intro v1 w1 hown1 hg1 hat1
               rw [List.nil_append] at hown1
               replace hat1 := Lib.hid (show v1.ownBlock = some wr.heap.size ∨ v1.ownBlock = some (wr.heap.size + 1) by simpa [Value.ownBlock] using hat1)
               have hz1 := hg1.size
               simp at hz1
               have hownA : Own sE 1 9 w1 B (.slice Ao out.length co) out := ((hown.drewN _).alloc _).grown hg1 (fun g hg => by have := (hlt.out g hg).2; simp [Value.ownBlock]; omega)
               have hbw1 : Below B w w1 := ((below_drewN hbw _).alloc (by simp; omega) _).grown hg1 (by simp; omega) (fun g hg => by simp [Value.ownBlock] at hg; omega)
               have q2 : w1.cell? ⟨g, o + k, none⟩ = some (.string x.1) := by rw [hbw1.cell hgB]; exact hq0.out)
            | (at_builtin
               refine (wpList_append_rw _ rfl (.tmp 51) (.tmp 56) _ rfl sE_len sE_one B 9 i0 _ 16 Tryd.underlying25 hi0 iz0 iz1 iz2 rfl (by omega) v1 (out.take (0)) rfl (hown1.alloc _) _ (some ⟨w1.heap.size, 0, none⟩) 1 1 [x] rfl rfl ((Own.lit (enc := sE) (l := [x]) (base := 0) #[.string x.1] (Nat.zero_le _) (by simp [maxLen]) (by simp [sE]) sE_len).reads sE_len) ?_ ?_ ?_ ?_)
               · (try simp [maxLen]) <;> omega
               · (try simp) <;> omega
               · (try simp) <;> omega
               intro v2 w2 hown2 hg2 hat2
               have hz2' := hg2.size
               simp at hz2'
               have hownB : Own sE 1 9 w2 B (.slice Ao out.length co) out := (hownA.alloc _).grown hg2 (fun g hg => own_ne hat1.out (hlt.out g hg).2)
               have hbw2 : Below B w w2 := (hbw1.alloc (by omega) _).grown hg2 (by simp; omega) (fun g hg => by rcases hat1.out with h | h <;> rw [h] at hg <;> simp at hg <;> omega)
               skip)
            | (at_builtin
               go_must (refine wpList_append_rw _ rfl (.tmp 58) (.tmp 61) _ rfl sE_len sE_one B 9 i0 _ 16 Tryd.underlying25 hi0 iz0 iz1 iz2 rfl (by omega) v2 (out.take (0) ++ [x]) rfl hown2 w2.heap.size _ (out.length - (0)) _ (out.drop (0)) (by rw [List.length_drop]) rfl ?_ ?_ ?_ ?_ ?_)
               · first
                   | exact (hownB.reads sE_len).drop hoc
                   | (rw [List.drop_zero]; exact hownB.reads sE_len)
                   | (have h := (hownB.reads sE_len).drop (a := 0) hoc; simp only [Option.map_some, addr_plain, Nat.mul_one] at h; exact h)
               · (try simp [maxLen]) <;> omega
               · (try simp) <;> omega
               · (try simp) <;> omega
               intro v3 w3 hown3 hg3 hat3
               have hz3' := hg3.size
               have hbw3 : Below B w w3 := hbw2.grown hg3 (by omega) (fun g hg => by
                 rcases hat2 with h | h
                 · rw [h] at hg; rcases hat1.out with h | h <;> rw [h] at hg <;> simp at hg <;> omega
                 · rw [h] at hg; simp at hg; omega)
               have hl3 : (out.take (0) ++ [x] ++ out.drop (0)).length = out.length + 1 := by simp <;> omega
               obtain ⟨A3, c3, hv3, hc3, _, _⟩ := hown3.form
               rw [hl3] at hv3 hc3
               subst hv3
               replace hl3 := Lib.hid hl3))
          go_roundw
          case rel => exact ⟨k + 1, out.take (0) ++ [x] ++ out.drop (0), A3, c3, by go_num, by rw [hl3.out], by omega, by rw [hl3.out]; omega, by rw [hl3.out]; exact hc3, by
            rw [List.take_add_one, hx'.out]
            exact put_srt ord_str hsrt.out ha hhi.out (fun y h => absurd h (by omega)), hown3, hbw3⟩
          case measure => simp [intOf]; omega
        · obtain ⟨b, rfl⟩ : ∃ b, a = b + 1 := ⟨a - 1, by omega⟩
          obtain ⟨y, hy⟩ := get_some (show b < out.length by omega)
          obtain ⟨g', o', rfl, _, hq3⟩ := hq2.out (by omega)
          have q3 : wr.cell? ⟨g', o' + b, none⟩ = some (.string y.1) := hq3 b y hy
          clear hq3
          have i2' : (0 : Int) ≤ (b : Int) := by omega
          have i3' : (b : Int) < (out.length : Int) := by omega
          have i4' : (0 : Int) < (b : Int) + 1 := by omega
          have i5' : 0 < b + 1 := by omega
          obtain ⟨C, hC⟩ : ∃ C, Id.cmpN x.1.toList y.1.toList = C := ⟨_, rfl⟩
          have hCx := Lib.hid (show cmpS x y = C from hC)
          have hcall := fun W => rcompare_any x.1 y.1 x.2 y.2 W
          rw [hC] at hcall
          replace hcall := Lib.hid hcall
          clear hC
          replace hy := Lib.hid hy
          by_cases hneg : C < 0
          · go_wp2_with fail
            go_quiet ((go_at_call 55; first | exact quiet_add (hcall.out _) | exact quiet_first (hcall.out _)))
            go_wp2_with fail
            go_roundw
            case rel =>
              refine ⟨b, _, rfl, by omega, fun i z hi hz => ?_, rfl⟩
              by_cases e : i = b
              · subst e
                have := hy.out
                rw [hz] at this
                cases this
                rw [hCx.out]
                exact hneg
              · exact hhi.out i z (by omega) hz
            case measure => simp [intOf] <;> omega
          · by_cases hyx : y = x
            · have t1 := str_eqq hyx
              have hmem : x ∈ out := by rw [← hyx]; exact List.mem_of_getElem? hy.out
              replace hmem := Lib.hid hmem
              replace hyx := Lib.hid hyx
              go_wp2_with fail
              go_quiet ((go_at_call 55; first | exact quiet_add (hcall.out _) | exact quiet_first (hcall.out _)))
              go_wp2_with fail
              go_quiet (fail)
              go_wp2_with fail
              go_roundw
              case rel => exact ⟨k + 1, out, _, co, by go_num, rfl, by omega, by omega, hoc, by
                rw [List.take_add_one, hx'.out]
                exact hsrt.out.again hmem.out, hown.drewN _, below_drewN hbw _⟩
              case measure => simp [intOf]; omega
            · have t1 := str_neq hyx
              have hlo : ∀ z, 0 < b + 1 → out[b + 1 - 1]? = some z → cmpS z x < 0 := fun z _ hz => by
                have := hy.out
                rw [Nat.add_sub_cancel] at hz
                rw [hz] at this; cases this
                exact ord_str.total (by rw [hCx.out]; exact hneg) (fun e => hyx e.symm)
              replace hlo := Lib.hid hlo
              replace hyx := Lib.hid hyx
              go_wp2_with fail
              go_quiet ((go_at_call 55; first | exact quiet_add (hcall.out _) | exact quiet_first (hcall.out _)))
              go_wp2_with fail
              go_quiet (fail)
              go_wp2_with (first
                | (at_builtin
                   refine wpList_append_rw _ rfl (.tmp 46) (.tmp 49) _ rfl sE_len sE_one B 9 i0 _ 16 Tryd.underlying25 hi0 iz0 iz1 iz2 rfl (by omega) (.slice (some ⟨wr.heap.size, 0, none⟩) 0 0) [] rfl
                     ?_ wr.heap.size (some ⟨g', o', none⟩) (b + 1) co (out.take (b + 1)) (by rw [List.length_take]; omega) rfl ?_ ?_ ?_ ?_ ?_
                   · exact Own.lit (enc := sE) (l := []) #[] hBw (by simp) (by simp) sE_len
                   · exact (hro.take.drewN _).alloc (Nat.le_refl _) _
                   · (try simp [maxLen]) <;> omega
                   · (try simp) <;> omega
                   · (try simp) <;> omega
                   intro v1 w1 hown1 hg1 hat1
                   rw [List.nil_append] at hown1
                   replace hat1 := Lib.hid (show v1.ownBlock = some wr.heap.size ∨ v1.ownBlock = some (wr.heap.size + 1) by simpa [Value.ownBlock] using hat1)
                   have hz1 := hg1.size
                   simp at hz1
                   have hownA : Own sE 1 9 w1 B (.slice (some ⟨g', o', none⟩) out.length co) out := ((hown.drewN _).alloc _).grown hg1 (fun g hg => by have := (hlt.out g hg).2; simp [Value.ownBlock]; omega)
                   have hbw1 : Below B w w1 := ((below_drewN hbw _).alloc (by simp; omega) _).grown hg1 (by simp; omega) (fun g hg => by simp [Value.ownBlock] at hg; omega)
                   have q2 : w1.cell? ⟨g, o + k, none⟩ = some (.string x.1) := by rw [hbw1.cell hgB]; exact hq0.out)
                | (at_builtin
                   refine (wpList_append_rw _ rfl (.tmp 51) (.tmp 56) _ rfl sE_len sE_one B 9 i0 _ 16 Tryd.underlying25 hi0 iz0 iz1 iz2 rfl (by omega) v1 (out.take (b + 1)) rfl (hown1.alloc _) _ (some ⟨w1.heap.size, 0, none⟩) 1 1 [x] rfl rfl ((Own.lit (enc := sE) (l := [x]) (base := 0) #[.string x.1] (Nat.zero_le _) (by simp [maxLen]) (by simp [sE]) sE_len).reads sE_len) ?_ ?_ ?_ ?_)
                   · (try simp [maxLen]) <;> omega
                   · (try simp) <;> omega
                   · (try simp) <;> omega
                   intro v2 w2 hown2 hg2 hat2
                   have hz2' := hg2.size
                   simp at hz2'
                   have hownB : Own sE 1 9 w2 B (.slice (some ⟨g', o', none⟩) out.length co) out := (hownA.alloc _).grown hg2 (fun g hg => own_ne hat1.out (hlt.out g hg).2)
                   have hbw2 : Below B w w2 := (hbw1.alloc (by omega) _).grown hg2 (by simp; omega) (fun g hg => by rcases hat1.out with h | h <;> rw [h] at hg <;> simp at hg <;> omega)
                   skip)
                | (at_builtin
                   go_must (refine wpList_append_rw _ rfl (.tmp 58) (.tmp 61) _ rfl sE_len sE_one B 9 i0 _ 16 Tryd.underlying25 hi0 iz0 iz1 iz2 rfl (by omega) v2 (out.take (b + 1) ++ [x]) rfl hown2 w2.heap.size _ (out.length - (b + 1)) _ (out.drop (b + 1)) (by rw [List.length_drop]) rfl ?_ ?_ ?_ ?_ ?_)
                   · first
                       | exact (hownB.reads sE_len).drop hoc
                       | (rw [List.drop_zero]; exact hownB.reads sE_len)
                       | (have h := (hownB.reads sE_len).drop (a := b + 1) hoc; simp only [Option.map_some, addr_plain, Nat.mul_one] at h; exact h)
                   · (try simp [maxLen]) <;> omega
                   · (try simp) <;> omega
                   · (try simp) <;> omega
                   intro v3 w3 hown3 hg3 hat3
                   have hz3' := hg3.size
                   have hbw3 : Below B w w3 := hbw2.grown hg3 (by omega) (fun g hg => by
                     rcases hat2 with h | h
                     · rw [h] at hg; rcases hat1.out with h | h <;> rw [h] at hg <;> simp at hg <;> omega
                     · rw [h] at hg; simp at hg; omega)
                   have hl3 : (out.take (b + 1) ++ [x] ++ out.drop (b + 1)).length = out.length + 1 := by simp <;> omega
                   obtain ⟨A3, c3, hv3, hc3, _, _⟩ := hown3.form
                   rw [hl3] at hv3 hc3
                   subst hv3
                   replace hl3 := Lib.hid hl3))
              go_roundw
              case rel => exact ⟨k + 1, out.take (b + 1) ++ [x] ++ out.drop (b + 1), A3, c3, by go_num, by rw [hl3.out], by omega, by rw [hl3.out]; omega, by rw [hl3.out]; exact hc3, by
                rw [List.take_add_one, hx'.out]
                exact put_srt ord_str hsrt.out ha hhi.out hlo.out, hown3, hbw3⟩
              case measure => simp [intOf]; omega
    · have he : k = l.length := by omega
      have hout : out = srt l := srtOf_eq ord_str (by have := hsrt.out; rwa [he, List.take_length] at this)
      replace hout := Lib.hid hout
      replace he := Lib.hid he
      go_wp2_with fail
      go_ret
      refine ⟨Ao, co, by rw [← hout.out]; rfl, ?_, hbw⟩
      rw [← hout.out]
      exact hown.reads sE_len
end Go.Proofs.YtnhfbignnnicnaaDoor
