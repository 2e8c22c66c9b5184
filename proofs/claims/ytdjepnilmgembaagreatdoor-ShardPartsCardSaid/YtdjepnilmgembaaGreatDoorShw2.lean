/-
  The walks of shards: the median of numbers, by the reference.
-/
import Derived.Test.YtdjepnilmgembaaGreatDoorShw1
import Derived.Deep.RegionHeld3


namespace Go.Proofs.YtdjepnilmgembaaGreatDoor
open Go.RowKit

theorem Own.base {α : Type} {enc : α → List Value} {k : Nat} {e : TypeId} {w : World} {b b' : Nat} {v : Value} {l : List α} (h : Own enc k e w b v l) (hb : b' ≤ b) : Own enc k e w b' v l := by
  refine ⟨h.1, ?_⟩
  rcases h.2 with hn | ⟨g, cap, cur, rfl, hb1, r⟩
  · exact .inl hn
  · exact .inr ⟨g, cap, cur, rfl, by omega, r⟩
/-- What one more number leaves of an ascending list. -/
def PutOut (l L : List I64) (n : I64) : Prop := (valI L).Perm (n.1 :: valI l) ∧ (UpI (valI l) → UpI (valI L))
theorem val_app (a b : List I64) : valI (a ++ b) = valI a ++ valI b := List.map_append
theorem put_out {l : List I64} {n : I64} {t : Nat} (ht : t ≤ l.length) (hhi : ∀ j y, t ≤ j → l[j]? = some y → n.1 < y.1) (hlo : ∀ y, 0 < t → l[t - 1]? = some y → y.1 ≤ n.1) : PutOut l (l.take t ++ [n] ++ l.drop t) n := by
  have e : valI l = valI (l.take t) ++ valI (l.drop t) := by rw [← val_app, List.take_append_drop]
  refine ⟨?_, fun hu => ?_⟩
  · rw [val_app, val_app, e, List.append_assoc]
    exact List.perm_middle
  · rw [val_app, val_app, List.append_assoc]
    rw [e] at hu
    refine up_put (n := n.1) hu (fun a ha => ?_) (fun b hb => ?_)
    · obtain ⟨x, hx, rfl⟩ := List.mem_map.1 ha
      obtain ⟨i, hi⟩ := List.getElem?_of_mem hx
      rw [List.getElem?_take] at hi
      split at hi
      · rename_i hit
        obtain ⟨y, hy⟩ := get_some (show t - 1 < l.length by omega)
        have h1 := hlo y (by omega) hy
        rcases Nat.lt_or_ge i (t - 1) with h2 | h2
        · have hu2 : UpI (valI l) := by rw [e]; exact hu
          have g1 : (valI l)[i]? = some x.1 := by unfold valI; rw [List.getElem?_map, hi]; rfl
          have g2 : (valI l)[t - 1]? = some y.1 := by unfold valI; rw [List.getElem?_map, hy]; rfl
          obtain ⟨a1, b1⟩ := List.getElem?_eq_some_iff.1 g1
          obtain ⟨a2, b2⟩ := List.getElem?_eq_some_iff.1 g2
          have h3 := List.pairwise_iff_getElem.1 hu2 i (t - 1) a1 a2 h2
          rw [b1, b2] at h3
          omega
        · obtain rfl : i = t - 1 := by omega
          rw [hy] at hi
          obtain rfl : y = x := by simpa using hi
          exact h1
      · cases hi
    · obtain ⟨x, hx, rfl⟩ := List.mem_map.1 hb
      obtain ⟨i, hi⟩ := List.getElem?_of_mem hx
      rw [List.getElem?_drop] at hi
      have := hhi _ x (by omega) hi
      omega
set_option maxRecDepth 100000 in
set_option maxHeartbeats 4000000 in
theorem rputi_any (A : Option Addr) (c : Nat) (l : List I64) (n : I64) (w : World) (hr : Rw iE 1 w w.heap.size A l) (hlc : l.length ≤ c) (hn : l.length ≤ 1000000) :
    Calls Tryz.prog 46 #[.slice A l.length c, .int .i64 n.1] w fun e w' => ∃ A' c' L, e = .returned (.slice A' L.length c') ∧ Own iE 1 3 w' w.heap.size (.slice A' L.length c') L ∧ PutOut l L n ∧ Below w.heap.size w w' := by
  obtain ⟨inf, hi0, iz0, iz1, iz2⟩ := info_parts int_info
  have hrd : Hid (Rw iE 1 w w.heap.size A l) := Lib.hid hr
  have hcc : Hid (l.length ≤ c) := Lib.hid hlc
  clear hr
  go_enter Tryz.func46, Tryz.ntmps46
  go_wp2_with fail
  go_loop [5] (fun vi => ∃ t : Nat, t ≤ l.length ∧ vi = .int .i64 (t : Int) ∧ (∀ j y, t ≤ j → l[j]? = some y → n.1 < y.1)) (fun vi => (intOf vi).toNat)
  case atStart => exact ⟨l.length, Nat.le_refl _, rfl, fun j y hj hy => absurd (List.getElem?_eq_some_iff.1 hy).1 (by omega)⟩
  case round =>
    obtain ⟨t, ht, rfl, hhi⟩ := hrel
    replace hhi := Lib.hid hhi
    have hexit : Hid ((∀ y, 0 < t → l[t - 1]? = some y → y.1 ≤ n.1) → PutOut l (l.take t ++ [n] ++ l.drop t) n) := Lib.hid fun h => put_out ht hhi.out h
    have hstep : ∀ y, l[t - 1]? = some y → n.1 < y.1 → 0 < t → ∀ j z, t - 1 ≤ j → l[j]? = some z → n.1 < z.1 := fun y hy hlt h0 j z hj hz => by
      rcases Nat.lt_or_ge j t with h | h
      · obtain rfl : j = t - 1 := by omega
        rw [hy] at hz
        obtain rfl : y = z := by simpa using hz
        exact hlt
      · exact hhi.out j z h hz
    replace hstep := Lib.hid hstep
    by_cases hgo : ∃ y, 0 < t ∧ l[t - 1]? = some y ∧ n.1 < y.1
    · obtain ⟨y, h0, hy, hlt⟩ := hgo
      have hnx := Lib.hid (hstep.out y hy hlt h0)
      obtain ⟨m, rfl⟩ : ∃ m, t = m + 1 := ⟨t - 1, by omega⟩
      rw [Nat.add_sub_cancel] at hy
      obtain ⟨g, o, rfl, hg, hq⟩ := hrd.out (by omega)
      have q0 := hq m y hy 0 (.int .i64 y.1) rfl
      rw [Nat.mul_one, Nat.add_zero] at q0
      clear hq
      have m0 : (0 : Int) ≤ (m : Int) := by omega
      have m1 : (m : Int) < (l.length : Int) := by omega
      have m2 : ((m + 1 : Nat) : Int) - 1 = (m : Int) := by omega
      have m3 : (0 : Int) < ((m + 1 : Nat) : Int) := by omega
      have mw : IntKind.i64.wrap (m : Int) = (m : Int) := IntWalk.i64_in _ (by omega)
      replace hy := Lib.hid hy
      go_wp2_with fail
      go_round
      case rel => exact ⟨m, by omega, rfl, by have := hnx.out; rwa [Nat.add_sub_cancel] at this⟩
      case measure => simp [intOf] <;> omega
    · have hout := Lib.hid (hexit.out fun y h0 hy => by
        rcases Int.lt_or_le n.1 y.1 with h | h
        · exact absurd ⟨y, h0, hy, h⟩ hgo
        · exact h)
      have hrt : Hid (Rw iE 1 w w.heap.size A (l.take t)) := Lib.hid hrd.out.take
      have hrdp : Hid (Rw iE 1 w w.heap.size (if c = t then A else A.map (·.add (t * 1))) (l.drop t)) := Lib.hid (hrd.out.drop hcc.out)
      have htl : (l.take t).length = t := by rw [List.length_take]; omega
      have hdl : (l.drop t).length = l.length - t := List.length_drop
      have e0 : (0 : Int) ≤ (t : Int) := by omega
      have e1 : (t : Int) ≤ (l.length : Int) := by omega
      have e2 : (t : Int) ≤ (c : Int) := by omega
      have hcond : ¬ (0 < t) ∨ ∃ y, 0 < t ∧ l[t - 1]? = some y ∧ ¬ n.1 < y.1 := by
        by_cases h0 : 0 < t
        · obtain ⟨y, hy⟩ := get_some (show t - 1 < l.length by omega)
          exact .inr ⟨y, h0, hy, fun h => hgo ⟨y, h0, hy, h⟩⟩
        · exact .inl h0
      clear hgo hexit hstep hhi
      rcases hcond with h0 | ⟨y, h0, hy, hnl⟩
      · have h0z : ¬ (0 : Int) < (t : Int) := by omega
        rcases Nat.lt_or_ge t l.length with hlt | hge
        · obtain ⟨g, o, rfl, hg, hq⟩ := hrd.out (by omega)
          have hct : ¬ c = t := by have := hcc.out; omega
          have hR3 : Hid (Rw iE 1 w w.heap.size (some ⟨g, o + t, none⟩) (l.drop t)) := Lib.hid (by
            have h := (hrd.out.cut (a := t) (b := l.length))
            rwa [List.take_length, Nat.mul_one] at h)
          clear hq
          go_wp2_with (first
            | (at_builtin
               refine wpList_append_rw _ rfl (.tmp 22) (.tmp 25) _ rfl iE_len iE_one w.heap.size 3 inf _ 8 Tryz.underlying46 hi0 iz0 iz1 iz2 rfl (by omega) (.slice (some ⟨w.heap.size, 0, none⟩) 0 0) [] rfl (Own.lit (enc := iE) (l := []) #[] (Nat.le_refl _) (by simp) (by simp) iE_len) w.heap.size _ t _ (l.take t) htl rfl (hrt.out.alloc (Nat.le_refl _) _) ?_ ?_ ?_ ?_
               · (try simp [maxLen]) <;> omega
               · (try simp) <;> omega
               · (try simp) <;> omega
               intro v1 w1 hown1 hg1 hat1
               have hz1 := hg1.size
               (try simp at hz1)
               rw [List.nil_append] at hown1
               replace hown1 := Lib.hid hown1
               have hb1 : Below w.heap.size w w1 := Below.grown (by repeat (first | (with_reducible exact Below.refl _ _) | (with_reducible refine Below.drew ?_) | (with_reducible refine below_drewN ?_ _) | ((with_reducible refine Below.alloc ?_ ?_ _); rotate_left; focus ((try simp) <;> omega)) | ((with_reducible refine Below.setCell ?_ ?_ _); rotate_left; focus ((try simp) <;> omega)) | ((with_reducible refine Below.trans ?_ (Below.mono (by assumption) ?_)); rotate_left; focus ((try simp) <;> omega)))) hg1 (by (try simp) <;> omega) (fun q hq => by simp [Value.ownBlock] at hq; omega))
            | (at_builtin
               refine wpList_append_rw _ rfl (.tmp 27) (.tmp 29) _ rfl iE_len iE_one w.heap.size 3 inf _ 8 Tryz.underlying46 hi0 iz0 iz1 iz2 rfl (by omega) _ (l.take t) rfl (hown1.out.alloc _) _ (some ⟨w1.heap.size, 0, none⟩) 1 1 [n] rfl rfl (rw_int1 rfl (Nat.lt_succ_self _)) ?_ ?_ ?_ ?_
               · rw [htl]; (try simp [maxLen]) <;> omega
               · rw [htl]; (try simp) <;> omega
               · (try simp) <;> omega
               intro v2 w2 hown2 hg2 hat2
               have hz2 := hg2.size
               (try simp at hz2)
               replace hown2 := Lib.hid hown2
               have hb2 : Below w.heap.size w w2 := Below.grown (by repeat (first | (with_reducible exact Below.refl _ _) | (with_reducible refine Below.drew ?_) | (with_reducible refine below_drewN ?_ _) | ((with_reducible refine Below.alloc ?_ ?_ _); rotate_left; focus ((try simp) <;> omega)) | ((with_reducible refine Below.setCell ?_ ?_ _); rotate_left; focus ((try simp) <;> omega)) | ((with_reducible refine Below.trans ?_ (Below.mono (by assumption) ?_)); rotate_left; focus ((try simp) <;> omega)))) hg2 (by (try simp) <;> omega) (fun q hq => (hown1.out.lt q hq).1))
            | (at_builtin
               refine wpList_append_rw _ rfl (.tmp 31) (.tmp 34) _ rfl iE_len iE_one w.heap.size 3 inf _ 8 Tryz.underlying46 hi0 iz0 iz1 iz2 rfl (by omega) _ (l.take t ++ [n]) rfl hown2.out _ _ (l.length - t) _ (l.drop t) hdl rfl ((hR3.out.below hb2 (Nat.le_refl _))) ?_ ?_ ?_ ?_
               · rw [List.length_append, htl, List.length_singleton]; (try simp [maxLen]) <;> omega
               · rw [List.length_append, htl, List.length_singleton]; (try simp) <;> omega
               · (try simp) <;> omega
               intro v3 w3 hown3 hg3 hat3
               have hz3 := hg3.size
               (try simp at hz3)
               have hb3 : Below w.heap.size w w3 := Below.grown (by repeat (first | (with_reducible exact Below.refl _ _) | (with_reducible refine Below.drew ?_) | (with_reducible refine below_drewN ?_ _) | ((with_reducible refine Below.alloc ?_ ?_ _); rotate_left; focus ((try simp) <;> omega)) | ((with_reducible refine Below.setCell ?_ ?_ _); rotate_left; focus ((try simp) <;> omega)) | ((with_reducible refine Below.trans ?_ (Below.mono (by assumption) ?_)); rotate_left; focus ((try simp) <;> omega)))) hg3 (by (try simp) <;> omega) (fun q hq => (hown2.out.lt q hq).1)))
          obtain ⟨A3, c3, hv3, _, _, _⟩ := hown3.form
          subst hv3
          go_ret
          exact ⟨A3, c3, _, rfl, hown3, hout.out, hb3⟩
        · have hnil : l.drop t = [] := List.drop_eq_nil_of_le hge
          have hdl0 : (l.drop t).length = 0 := by rw [hnil]; rfl
          have hR3 : Hid (∀ (W : World) (B : Nat) (X : Option Addr), Rw iE 1 W B X (l.drop t)) := Lib.hid (by rw [hnil]; exact fun _ _ _ => Rw.nil)
          replace hnil := Lib.hid hnil
          rcases A with _ | a
          · by_cases hct : c = t
            · have hct2 : t = c := hct.symm
              subst hct2
              go_wp2_with (first
                | (at_builtin
                   refine wpList_append_rw _ rfl (.tmp 22) (.tmp 25) _ rfl iE_len iE_one w.heap.size 3 inf _ 8 Tryz.underlying46 hi0 iz0 iz1 iz2 rfl (by omega) (.slice (some ⟨w.heap.size, 0, none⟩) 0 0) [] rfl (Own.lit (enc := iE) (l := []) #[] (Nat.le_refl _) (by simp) (by simp) iE_len) w.heap.size _ t _ (l.take t) htl rfl (hrt.out.alloc (Nat.le_refl _) _) ?_ ?_ ?_ ?_
                   · (try simp [maxLen]) <;> omega
                   · (try simp) <;> omega
                   · (try simp) <;> omega
                   intro v1 w1 hown1 hg1 hat1
                   have hz1 := hg1.size
                   (try simp at hz1)
                   rw [List.nil_append] at hown1
                   replace hown1 := Lib.hid hown1
                   have hb1 : Below w.heap.size w w1 := Below.grown (by repeat (first | (with_reducible exact Below.refl _ _) | (with_reducible refine Below.drew ?_) | (with_reducible refine below_drewN ?_ _) | ((with_reducible refine Below.alloc ?_ ?_ _); rotate_left; focus ((try simp) <;> omega)) | ((with_reducible refine Below.setCell ?_ ?_ _); rotate_left; focus ((try simp) <;> omega)) | ((with_reducible refine Below.trans ?_ (Below.mono (by assumption) ?_)); rotate_left; focus ((try simp) <;> omega)))) hg1 (by (try simp) <;> omega) (fun q hq => by simp [Value.ownBlock] at hq; omega))
                | (at_builtin
                   refine wpList_append_rw _ rfl (.tmp 27) (.tmp 29) _ rfl iE_len iE_one w.heap.size 3 inf _ 8 Tryz.underlying46 hi0 iz0 iz1 iz2 rfl (by omega) _ (l.take t) rfl (hown1.out.alloc _) _ (some ⟨w1.heap.size, 0, none⟩) 1 1 [n] rfl rfl (rw_int1 rfl (Nat.lt_succ_self _)) ?_ ?_ ?_ ?_
                   · rw [htl]; (try simp [maxLen]) <;> omega
                   · rw [htl]; (try simp) <;> omega
                   · (try simp) <;> omega
                   intro v2 w2 hown2 hg2 hat2
                   have hz2 := hg2.size
                   (try simp at hz2)
                   replace hown2 := Lib.hid hown2
                   have hb2 : Below w.heap.size w w2 := Below.grown (by repeat (first | (with_reducible exact Below.refl _ _) | (with_reducible refine Below.drew ?_) | (with_reducible refine below_drewN ?_ _) | ((with_reducible refine Below.alloc ?_ ?_ _); rotate_left; focus ((try simp) <;> omega)) | ((with_reducible refine Below.setCell ?_ ?_ _); rotate_left; focus ((try simp) <;> omega)) | ((with_reducible refine Below.trans ?_ (Below.mono (by assumption) ?_)); rotate_left; focus ((try simp) <;> omega)))) hg2 (by (try simp) <;> omega) (fun q hq => (hown1.out.lt q hq).1))
                | (at_builtin
                   refine wpList_append_rw _ rfl (.tmp 31) (.tmp 34) _ rfl iE_len iE_one w.heap.size 3 inf _ 8 Tryz.underlying46 hi0 iz0 iz1 iz2 rfl (by omega) _ (l.take t ++ [n]) rfl hown2.out _ _ 0 _ (l.drop t) hdl0 rfl ((hR3.out _ 0 _)) ?_ ?_ ?_ ?_
                   · rw [List.length_append, htl, List.length_singleton]; (try simp [maxLen]) <;> omega
                   · rw [List.length_append, htl, List.length_singleton]; (try simp) <;> omega
                   · (try simp) <;> omega
                   intro v3 w3 hown3 hg3 hat3
                   have hz3 := hg3.size
                   (try simp at hz3)
                   have hb3 : Below w.heap.size w w3 := Below.grown (by repeat (first | (with_reducible exact Below.refl _ _) | (with_reducible refine Below.drew ?_) | (with_reducible refine below_drewN ?_ _) | ((with_reducible refine Below.alloc ?_ ?_ _); rotate_left; focus ((try simp) <;> omega)) | ((with_reducible refine Below.setCell ?_ ?_ _); rotate_left; focus ((try simp) <;> omega)) | ((with_reducible refine Below.trans ?_ (Below.mono (by assumption) ?_)); rotate_left; focus ((try simp) <;> omega)))) hg3 (by (try simp) <;> omega) (fun q hq => (hown2.out.lt q hq).1)))
              obtain ⟨A3, c3, hv3, _, _, _⟩ := hown3.form
              subst hv3
              go_ret
              exact ⟨A3, c3, _, rfl, hown3, hout.out, hb3⟩
            · go_wp2_with (first
                | (at_builtin
                   refine wpList_append_rw _ rfl (.tmp 22) (.tmp 25) _ rfl iE_len iE_one w.heap.size 3 inf _ 8 Tryz.underlying46 hi0 iz0 iz1 iz2 rfl (by omega) (.slice (some ⟨w.heap.size, 0, none⟩) 0 0) [] rfl (Own.lit (enc := iE) (l := []) #[] (Nat.le_refl _) (by simp) (by simp) iE_len) w.heap.size _ t _ (l.take t) htl rfl (hrt.out.alloc (Nat.le_refl _) _) ?_ ?_ ?_ ?_
                   · (try simp [maxLen]) <;> omega
                   · (try simp) <;> omega
                   · (try simp) <;> omega
                   intro v1 w1 hown1 hg1 hat1
                   have hz1 := hg1.size
                   (try simp at hz1)
                   rw [List.nil_append] at hown1
                   replace hown1 := Lib.hid hown1
                   have hb1 : Below w.heap.size w w1 := Below.grown (by repeat (first | (with_reducible exact Below.refl _ _) | (with_reducible refine Below.drew ?_) | (with_reducible refine below_drewN ?_ _) | ((with_reducible refine Below.alloc ?_ ?_ _); rotate_left; focus ((try simp) <;> omega)) | ((with_reducible refine Below.setCell ?_ ?_ _); rotate_left; focus ((try simp) <;> omega)) | ((with_reducible refine Below.trans ?_ (Below.mono (by assumption) ?_)); rotate_left; focus ((try simp) <;> omega)))) hg1 (by (try simp) <;> omega) (fun q hq => by simp [Value.ownBlock] at hq; omega))
                | (at_builtin
                   refine wpList_append_rw _ rfl (.tmp 27) (.tmp 29) _ rfl iE_len iE_one w.heap.size 3 inf _ 8 Tryz.underlying46 hi0 iz0 iz1 iz2 rfl (by omega) _ (l.take t) rfl (hown1.out.alloc _) _ (some ⟨w1.heap.size, 0, none⟩) 1 1 [n] rfl rfl (rw_int1 rfl (Nat.lt_succ_self _)) ?_ ?_ ?_ ?_
                   · rw [htl]; (try simp [maxLen]) <;> omega
                   · rw [htl]; (try simp) <;> omega
                   · (try simp) <;> omega
                   intro v2 w2 hown2 hg2 hat2
                   have hz2 := hg2.size
                   (try simp at hz2)
                   replace hown2 := Lib.hid hown2
                   have hb2 : Below w.heap.size w w2 := Below.grown (by repeat (first | (with_reducible exact Below.refl _ _) | (with_reducible refine Below.drew ?_) | (with_reducible refine below_drewN ?_ _) | ((with_reducible refine Below.alloc ?_ ?_ _); rotate_left; focus ((try simp) <;> omega)) | ((with_reducible refine Below.setCell ?_ ?_ _); rotate_left; focus ((try simp) <;> omega)) | ((with_reducible refine Below.trans ?_ (Below.mono (by assumption) ?_)); rotate_left; focus ((try simp) <;> omega)))) hg2 (by (try simp) <;> omega) (fun q hq => (hown1.out.lt q hq).1))
                | (at_builtin
                   refine wpList_append_rw _ rfl (.tmp 31) (.tmp 34) _ rfl iE_len iE_one w.heap.size 3 inf _ 8 Tryz.underlying46 hi0 iz0 iz1 iz2 rfl (by omega) _ (l.take t ++ [n]) rfl hown2.out _ _ 0 _ (l.drop t) hdl0 rfl ((hR3.out _ 0 _)) ?_ ?_ ?_ ?_
                   · rw [List.length_append, htl, List.length_singleton]; (try simp [maxLen]) <;> omega
                   · rw [List.length_append, htl, List.length_singleton]; (try simp) <;> omega
                   · (try simp) <;> omega
                   intro v3 w3 hown3 hg3 hat3
                   have hz3 := hg3.size
                   (try simp at hz3)
                   have hb3 : Below w.heap.size w w3 := Below.grown (by repeat (first | (with_reducible exact Below.refl _ _) | (with_reducible refine Below.drew ?_) | (with_reducible refine below_drewN ?_ _) | ((with_reducible refine Below.alloc ?_ ?_ _); rotate_left; focus ((try simp) <;> omega)) | ((with_reducible refine Below.setCell ?_ ?_ _); rotate_left; focus ((try simp) <;> omega)) | ((with_reducible refine Below.trans ?_ (Below.mono (by assumption) ?_)); rotate_left; focus ((try simp) <;> omega)))) hg3 (by (try simp) <;> omega) (fun q hq => (hown2.out.lt q hq).1)))
              obtain ⟨A3, c3, hv3, _, _, _⟩ := hown3.form
              subst hv3
              go_ret
              exact ⟨A3, c3, _, rfl, hown3, hout.out, hb3⟩
          · by_cases hct : c = t
            · have hct2 : t = c := hct.symm
              subst hct2
              go_wp2_with (first
                | (at_builtin
                   refine wpList_append_rw _ rfl (.tmp 22) (.tmp 25) _ rfl iE_len iE_one w.heap.size 3 inf _ 8 Tryz.underlying46 hi0 iz0 iz1 iz2 rfl (by omega) (.slice (some ⟨w.heap.size, 0, none⟩) 0 0) [] rfl (Own.lit (enc := iE) (l := []) #[] (Nat.le_refl _) (by simp) (by simp) iE_len) w.heap.size _ t _ (l.take t) htl rfl (hrt.out.alloc (Nat.le_refl _) _) ?_ ?_ ?_ ?_
                   · (try simp [maxLen]) <;> omega
                   · (try simp) <;> omega
                   · (try simp) <;> omega
                   intro v1 w1 hown1 hg1 hat1
                   have hz1 := hg1.size
                   (try simp at hz1)
                   rw [List.nil_append] at hown1
                   replace hown1 := Lib.hid hown1
                   have hb1 : Below w.heap.size w w1 := Below.grown (by repeat (first | (with_reducible exact Below.refl _ _) | (with_reducible refine Below.drew ?_) | (with_reducible refine below_drewN ?_ _) | ((with_reducible refine Below.alloc ?_ ?_ _); rotate_left; focus ((try simp) <;> omega)) | ((with_reducible refine Below.setCell ?_ ?_ _); rotate_left; focus ((try simp) <;> omega)) | ((with_reducible refine Below.trans ?_ (Below.mono (by assumption) ?_)); rotate_left; focus ((try simp) <;> omega)))) hg1 (by (try simp) <;> omega) (fun q hq => by simp [Value.ownBlock] at hq; omega))
                | (at_builtin
                   refine wpList_append_rw _ rfl (.tmp 27) (.tmp 29) _ rfl iE_len iE_one w.heap.size 3 inf _ 8 Tryz.underlying46 hi0 iz0 iz1 iz2 rfl (by omega) _ (l.take t) rfl (hown1.out.alloc _) _ (some ⟨w1.heap.size, 0, none⟩) 1 1 [n] rfl rfl (rw_int1 rfl (Nat.lt_succ_self _)) ?_ ?_ ?_ ?_
                   · rw [htl]; (try simp [maxLen]) <;> omega
                   · rw [htl]; (try simp) <;> omega
                   · (try simp) <;> omega
                   intro v2 w2 hown2 hg2 hat2
                   have hz2 := hg2.size
                   (try simp at hz2)
                   replace hown2 := Lib.hid hown2
                   have hb2 : Below w.heap.size w w2 := Below.grown (by repeat (first | (with_reducible exact Below.refl _ _) | (with_reducible refine Below.drew ?_) | (with_reducible refine below_drewN ?_ _) | ((with_reducible refine Below.alloc ?_ ?_ _); rotate_left; focus ((try simp) <;> omega)) | ((with_reducible refine Below.setCell ?_ ?_ _); rotate_left; focus ((try simp) <;> omega)) | ((with_reducible refine Below.trans ?_ (Below.mono (by assumption) ?_)); rotate_left; focus ((try simp) <;> omega)))) hg2 (by (try simp) <;> omega) (fun q hq => (hown1.out.lt q hq).1))
                | (at_builtin
                   refine wpList_append_rw _ rfl (.tmp 31) (.tmp 34) _ rfl iE_len iE_one w.heap.size 3 inf _ 8 Tryz.underlying46 hi0 iz0 iz1 iz2 rfl (by omega) _ (l.take t ++ [n]) rfl hown2.out _ _ 0 _ (l.drop t) hdl0 rfl ((hR3.out _ 0 _)) ?_ ?_ ?_ ?_
                   · rw [List.length_append, htl, List.length_singleton]; (try simp [maxLen]) <;> omega
                   · rw [List.length_append, htl, List.length_singleton]; (try simp) <;> omega
                   · (try simp) <;> omega
                   intro v3 w3 hown3 hg3 hat3
                   have hz3 := hg3.size
                   (try simp at hz3)
                   have hb3 : Below w.heap.size w w3 := Below.grown (by repeat (first | (with_reducible exact Below.refl _ _) | (with_reducible refine Below.drew ?_) | (with_reducible refine below_drewN ?_ _) | ((with_reducible refine Below.alloc ?_ ?_ _); rotate_left; focus ((try simp) <;> omega)) | ((with_reducible refine Below.setCell ?_ ?_ _); rotate_left; focus ((try simp) <;> omega)) | ((with_reducible refine Below.trans ?_ (Below.mono (by assumption) ?_)); rotate_left; focus ((try simp) <;> omega)))) hg3 (by (try simp) <;> omega) (fun q hq => (hown2.out.lt q hq).1)))
              obtain ⟨A3, c3, hv3, _, _, _⟩ := hown3.form
              subst hv3
              go_ret
              exact ⟨A3, c3, _, rfl, hown3, hout.out, hb3⟩
            · go_wp2_with (first
                | (at_builtin
                   refine wpList_append_rw _ rfl (.tmp 22) (.tmp 25) _ rfl iE_len iE_one w.heap.size 3 inf _ 8 Tryz.underlying46 hi0 iz0 iz1 iz2 rfl (by omega) (.slice (some ⟨w.heap.size, 0, none⟩) 0 0) [] rfl (Own.lit (enc := iE) (l := []) #[] (Nat.le_refl _) (by simp) (by simp) iE_len) w.heap.size _ t _ (l.take t) htl rfl (hrt.out.alloc (Nat.le_refl _) _) ?_ ?_ ?_ ?_
                   · (try simp [maxLen]) <;> omega
                   · (try simp) <;> omega
                   · (try simp) <;> omega
                   intro v1 w1 hown1 hg1 hat1
                   have hz1 := hg1.size
                   (try simp at hz1)
                   rw [List.nil_append] at hown1
                   replace hown1 := Lib.hid hown1
                   have hb1 : Below w.heap.size w w1 := Below.grown (by repeat (first | (with_reducible exact Below.refl _ _) | (with_reducible refine Below.drew ?_) | (with_reducible refine below_drewN ?_ _) | ((with_reducible refine Below.alloc ?_ ?_ _); rotate_left; focus ((try simp) <;> omega)) | ((with_reducible refine Below.setCell ?_ ?_ _); rotate_left; focus ((try simp) <;> omega)) | ((with_reducible refine Below.trans ?_ (Below.mono (by assumption) ?_)); rotate_left; focus ((try simp) <;> omega)))) hg1 (by (try simp) <;> omega) (fun q hq => by simp [Value.ownBlock] at hq; omega))
                | (at_builtin
                   refine wpList_append_rw _ rfl (.tmp 27) (.tmp 29) _ rfl iE_len iE_one w.heap.size 3 inf _ 8 Tryz.underlying46 hi0 iz0 iz1 iz2 rfl (by omega) _ (l.take t) rfl (hown1.out.alloc _) _ (some ⟨w1.heap.size, 0, none⟩) 1 1 [n] rfl rfl (rw_int1 rfl (Nat.lt_succ_self _)) ?_ ?_ ?_ ?_
                   · rw [htl]; (try simp [maxLen]) <;> omega
                   · rw [htl]; (try simp) <;> omega
                   · (try simp) <;> omega
                   intro v2 w2 hown2 hg2 hat2
                   have hz2 := hg2.size
                   (try simp at hz2)
                   replace hown2 := Lib.hid hown2
                   have hb2 : Below w.heap.size w w2 := Below.grown (by repeat (first | (with_reducible exact Below.refl _ _) | (with_reducible refine Below.drew ?_) | (with_reducible refine below_drewN ?_ _) | ((with_reducible refine Below.alloc ?_ ?_ _); rotate_left; focus ((try simp) <;> omega)) | ((with_reducible refine Below.setCell ?_ ?_ _); rotate_left; focus ((try simp) <;> omega)) | ((with_reducible refine Below.trans ?_ (Below.mono (by assumption) ?_)); rotate_left; focus ((try simp) <;> omega)))) hg2 (by (try simp) <;> omega) (fun q hq => (hown1.out.lt q hq).1))
                | (at_builtin
                   refine wpList_append_rw _ rfl (.tmp 31) (.tmp 34) _ rfl iE_len iE_one w.heap.size 3 inf _ 8 Tryz.underlying46 hi0 iz0 iz1 iz2 rfl (by omega) _ (l.take t ++ [n]) rfl hown2.out _ _ 0 _ (l.drop t) hdl0 rfl ((hR3.out _ 0 _)) ?_ ?_ ?_ ?_
                   · rw [List.length_append, htl, List.length_singleton]; (try simp [maxLen]) <;> omega
                   · rw [List.length_append, htl, List.length_singleton]; (try simp) <;> omega
                   · (try simp) <;> omega
                   intro v3 w3 hown3 hg3 hat3
                   have hz3 := hg3.size
                   (try simp at hz3)
                   have hb3 : Below w.heap.size w w3 := Below.grown (by repeat (first | (with_reducible exact Below.refl _ _) | (with_reducible refine Below.drew ?_) | (with_reducible refine below_drewN ?_ _) | ((with_reducible refine Below.alloc ?_ ?_ _); rotate_left; focus ((try simp) <;> omega)) | ((with_reducible refine Below.setCell ?_ ?_ _); rotate_left; focus ((try simp) <;> omega)) | ((with_reducible refine Below.trans ?_ (Below.mono (by assumption) ?_)); rotate_left; focus ((try simp) <;> omega)))) hg3 (by (try simp) <;> omega) (fun q hq => (hown2.out.lt q hq).1)))
              obtain ⟨A3, c3, hv3, _, _, _⟩ := hown3.form
              subst hv3
              go_ret
              exact ⟨A3, c3, _, rfl, hown3, hout.out, hb3⟩
      · obtain ⟨m, hm⟩ : ∃ m, t = m + 1 := ⟨t - 1, by omega⟩
        have hym : l[m]? = some y := by rw [hm, Nat.add_sub_cancel] at hy; exact hy
        obtain ⟨gy, oy, hAy, hgy, hqy⟩ := hrd.out (by omega)
        have q0 := hqy m y hym 0 (.int .i64 y.1) rfl
        rw [Nat.mul_one, Nat.add_zero] at q0
        clear hqy
        subst hAy
        have m0 : (0 : Int) ≤ (m : Int) := by omega
        have m1 : (m : Int) < (l.length : Int) := by omega
        have m2 : (t : Int) - 1 = (m : Int) := by omega
        have h0z : (0 : Int) < (t : Int) := by omega
        have mw : IntKind.i64.wrap (m : Int) = (m : Int) := IntWalk.i64_in _ (by omega)
        replace hm := Lib.hid hm
        replace hy := Lib.hid hy
        replace hym := Lib.hid hym
        rcases Nat.lt_or_ge t l.length with hlt | hge
        · have hct : ¬ c = t := by have := hcc.out; omega
          have hR3 : Hid (Rw iE 1 w w.heap.size (some ⟨gy, oy + t, none⟩) (l.drop t)) := Lib.hid (by
            have h := (hrd.out.cut (a := t) (b := l.length))
            rwa [List.take_length, Nat.mul_one] at h)
          go_wp2_with (first
            | (at_builtin
               refine wpList_append_rw _ rfl (.tmp 22) (.tmp 25) _ rfl iE_len iE_one w.heap.size 3 inf _ 8 Tryz.underlying46 hi0 iz0 iz1 iz2 rfl (by omega) (.slice (some ⟨w.heap.size, 0, none⟩) 0 0) [] rfl (Own.lit (enc := iE) (l := []) #[] (Nat.le_refl _) (by simp) (by simp) iE_len) w.heap.size _ t _ (l.take t) htl rfl (hrt.out.alloc (Nat.le_refl _) _) ?_ ?_ ?_ ?_
               · (try simp [maxLen]) <;> omega
               · (try simp) <;> omega
               · (try simp) <;> omega
               intro v1 w1 hown1 hg1 hat1
               have hz1 := hg1.size
               (try simp at hz1)
               rw [List.nil_append] at hown1
               replace hown1 := Lib.hid hown1
               have hb1 : Below w.heap.size w w1 := Below.grown (by repeat (first | (with_reducible exact Below.refl _ _) | (with_reducible refine Below.drew ?_) | (with_reducible refine below_drewN ?_ _) | ((with_reducible refine Below.alloc ?_ ?_ _); rotate_left; focus ((try simp) <;> omega)) | ((with_reducible refine Below.setCell ?_ ?_ _); rotate_left; focus ((try simp) <;> omega)) | ((with_reducible refine Below.trans ?_ (Below.mono (by assumption) ?_)); rotate_left; focus ((try simp) <;> omega)))) hg1 (by (try simp) <;> omega) (fun q hq => by simp [Value.ownBlock] at hq; omega))
            | (at_builtin
               refine wpList_append_rw _ rfl (.tmp 27) (.tmp 29) _ rfl iE_len iE_one w.heap.size 3 inf _ 8 Tryz.underlying46 hi0 iz0 iz1 iz2 rfl (by omega) _ (l.take t) rfl (hown1.out.alloc _) _ (some ⟨w1.heap.size, 0, none⟩) 1 1 [n] rfl rfl (rw_int1 rfl (Nat.lt_succ_self _)) ?_ ?_ ?_ ?_
               · rw [htl]; (try simp [maxLen]) <;> omega
               · rw [htl]; (try simp) <;> omega
               · (try simp) <;> omega
               intro v2 w2 hown2 hg2 hat2
               have hz2 := hg2.size
               (try simp at hz2)
               replace hown2 := Lib.hid hown2
               have hb2 : Below w.heap.size w w2 := Below.grown (by repeat (first | (with_reducible exact Below.refl _ _) | (with_reducible refine Below.drew ?_) | (with_reducible refine below_drewN ?_ _) | ((with_reducible refine Below.alloc ?_ ?_ _); rotate_left; focus ((try simp) <;> omega)) | ((with_reducible refine Below.setCell ?_ ?_ _); rotate_left; focus ((try simp) <;> omega)) | ((with_reducible refine Below.trans ?_ (Below.mono (by assumption) ?_)); rotate_left; focus ((try simp) <;> omega)))) hg2 (by (try simp) <;> omega) (fun q hq => (hown1.out.lt q hq).1))
            | (at_builtin
               refine wpList_append_rw _ rfl (.tmp 31) (.tmp 34) _ rfl iE_len iE_one w.heap.size 3 inf _ 8 Tryz.underlying46 hi0 iz0 iz1 iz2 rfl (by omega) _ (l.take t ++ [n]) rfl hown2.out _ _ (l.length - t) _ (l.drop t) hdl rfl ((hR3.out.below hb2 (Nat.le_refl _))) ?_ ?_ ?_ ?_
               · rw [List.length_append, htl, List.length_singleton]; (try simp [maxLen]) <;> omega
               · rw [List.length_append, htl, List.length_singleton]; (try simp) <;> omega
               · (try simp) <;> omega
               intro v3 w3 hown3 hg3 hat3
               have hz3 := hg3.size
               (try simp at hz3)
               have hb3 : Below w.heap.size w w3 := Below.grown (by repeat (first | (with_reducible exact Below.refl _ _) | (with_reducible refine Below.drew ?_) | (with_reducible refine below_drewN ?_ _) | ((with_reducible refine Below.alloc ?_ ?_ _); rotate_left; focus ((try simp) <;> omega)) | ((with_reducible refine Below.setCell ?_ ?_ _); rotate_left; focus ((try simp) <;> omega)) | ((with_reducible refine Below.trans ?_ (Below.mono (by assumption) ?_)); rotate_left; focus ((try simp) <;> omega)))) hg3 (by (try simp) <;> omega) (fun q hq => (hown2.out.lt q hq).1)))
          obtain ⟨A3, c3, hv3, _, _, _⟩ := hown3.form
          subst hv3
          go_ret
          exact ⟨A3, c3, _, rfl, hown3, hout.out, hb3⟩
        · have hnil : l.drop t = [] := List.drop_eq_nil_of_le hge
          have hdl0 : (l.drop t).length = 0 := by rw [hnil]; rfl
          have hR3 : Hid (∀ (W : World) (B : Nat) (X : Option Addr), Rw iE 1 W B X (l.drop t)) := Lib.hid (by rw [hnil]; exact fun _ _ _ => Rw.nil)
          replace hnil := Lib.hid hnil
          by_cases hct : c = t
          · have hct2 : t = c := hct.symm
            subst hct2
            go_wp2_with (first
              | (at_builtin
                 refine wpList_append_rw _ rfl (.tmp 22) (.tmp 25) _ rfl iE_len iE_one w.heap.size 3 inf _ 8 Tryz.underlying46 hi0 iz0 iz1 iz2 rfl (by omega) (.slice (some ⟨w.heap.size, 0, none⟩) 0 0) [] rfl (Own.lit (enc := iE) (l := []) #[] (Nat.le_refl _) (by simp) (by simp) iE_len) w.heap.size _ t _ (l.take t) htl rfl (hrt.out.alloc (Nat.le_refl _) _) ?_ ?_ ?_ ?_
                 · (try simp [maxLen]) <;> omega
                 · (try simp) <;> omega
                 · (try simp) <;> omega
                 intro v1 w1 hown1 hg1 hat1
                 have hz1 := hg1.size
                 (try simp at hz1)
                 rw [List.nil_append] at hown1
                 replace hown1 := Lib.hid hown1
                 have hb1 : Below w.heap.size w w1 := Below.grown (by repeat (first | (with_reducible exact Below.refl _ _) | (with_reducible refine Below.drew ?_) | (with_reducible refine below_drewN ?_ _) | ((with_reducible refine Below.alloc ?_ ?_ _); rotate_left; focus ((try simp) <;> omega)) | ((with_reducible refine Below.setCell ?_ ?_ _); rotate_left; focus ((try simp) <;> omega)) | ((with_reducible refine Below.trans ?_ (Below.mono (by assumption) ?_)); rotate_left; focus ((try simp) <;> omega)))) hg1 (by (try simp) <;> omega) (fun q hq => by simp [Value.ownBlock] at hq; omega))
              | (at_builtin
                 refine wpList_append_rw _ rfl (.tmp 27) (.tmp 29) _ rfl iE_len iE_one w.heap.size 3 inf _ 8 Tryz.underlying46 hi0 iz0 iz1 iz2 rfl (by omega) _ (l.take t) rfl (hown1.out.alloc _) _ (some ⟨w1.heap.size, 0, none⟩) 1 1 [n] rfl rfl (rw_int1 rfl (Nat.lt_succ_self _)) ?_ ?_ ?_ ?_
                 · rw [htl]; (try simp [maxLen]) <;> omega
                 · rw [htl]; (try simp) <;> omega
                 · (try simp) <;> omega
                 intro v2 w2 hown2 hg2 hat2
                 have hz2 := hg2.size
                 (try simp at hz2)
                 replace hown2 := Lib.hid hown2
                 have hb2 : Below w.heap.size w w2 := Below.grown (by repeat (first | (with_reducible exact Below.refl _ _) | (with_reducible refine Below.drew ?_) | (with_reducible refine below_drewN ?_ _) | ((with_reducible refine Below.alloc ?_ ?_ _); rotate_left; focus ((try simp) <;> omega)) | ((with_reducible refine Below.setCell ?_ ?_ _); rotate_left; focus ((try simp) <;> omega)) | ((with_reducible refine Below.trans ?_ (Below.mono (by assumption) ?_)); rotate_left; focus ((try simp) <;> omega)))) hg2 (by (try simp) <;> omega) (fun q hq => (hown1.out.lt q hq).1))
              | (at_builtin
                 refine wpList_append_rw _ rfl (.tmp 31) (.tmp 34) _ rfl iE_len iE_one w.heap.size 3 inf _ 8 Tryz.underlying46 hi0 iz0 iz1 iz2 rfl (by omega) _ (l.take t ++ [n]) rfl hown2.out _ _ 0 _ (l.drop t) hdl0 rfl ((hR3.out _ 0 _)) ?_ ?_ ?_ ?_
                 · rw [List.length_append, htl, List.length_singleton]; (try simp [maxLen]) <;> omega
                 · rw [List.length_append, htl, List.length_singleton]; (try simp) <;> omega
                 · (try simp) <;> omega
                 intro v3 w3 hown3 hg3 hat3
                 have hz3 := hg3.size
                 (try simp at hz3)
                 have hb3 : Below w.heap.size w w3 := Below.grown (by repeat (first | (with_reducible exact Below.refl _ _) | (with_reducible refine Below.drew ?_) | (with_reducible refine below_drewN ?_ _) | ((with_reducible refine Below.alloc ?_ ?_ _); rotate_left; focus ((try simp) <;> omega)) | ((with_reducible refine Below.setCell ?_ ?_ _); rotate_left; focus ((try simp) <;> omega)) | ((with_reducible refine Below.trans ?_ (Below.mono (by assumption) ?_)); rotate_left; focus ((try simp) <;> omega)))) hg3 (by (try simp) <;> omega) (fun q hq => (hown2.out.lt q hq).1)))
            obtain ⟨A3, c3, hv3, _, _, _⟩ := hown3.form
            subst hv3
            go_ret
            exact ⟨A3, c3, _, rfl, hown3, hout.out, hb3⟩
          · go_wp2_with (first
              | (at_builtin
                 refine wpList_append_rw _ rfl (.tmp 22) (.tmp 25) _ rfl iE_len iE_one w.heap.size 3 inf _ 8 Tryz.underlying46 hi0 iz0 iz1 iz2 rfl (by omega) (.slice (some ⟨w.heap.size, 0, none⟩) 0 0) [] rfl (Own.lit (enc := iE) (l := []) #[] (Nat.le_refl _) (by simp) (by simp) iE_len) w.heap.size _ t _ (l.take t) htl rfl (hrt.out.alloc (Nat.le_refl _) _) ?_ ?_ ?_ ?_
                 · (try simp [maxLen]) <;> omega
                 · (try simp) <;> omega
                 · (try simp) <;> omega
                 intro v1 w1 hown1 hg1 hat1
                 have hz1 := hg1.size
                 (try simp at hz1)
                 rw [List.nil_append] at hown1
                 replace hown1 := Lib.hid hown1
                 have hb1 : Below w.heap.size w w1 := Below.grown (by repeat (first | (with_reducible exact Below.refl _ _) | (with_reducible refine Below.drew ?_) | (with_reducible refine below_drewN ?_ _) | ((with_reducible refine Below.alloc ?_ ?_ _); rotate_left; focus ((try simp) <;> omega)) | ((with_reducible refine Below.setCell ?_ ?_ _); rotate_left; focus ((try simp) <;> omega)) | ((with_reducible refine Below.trans ?_ (Below.mono (by assumption) ?_)); rotate_left; focus ((try simp) <;> omega)))) hg1 (by (try simp) <;> omega) (fun q hq => by simp [Value.ownBlock] at hq; omega))
              | (at_builtin
                 refine wpList_append_rw _ rfl (.tmp 27) (.tmp 29) _ rfl iE_len iE_one w.heap.size 3 inf _ 8 Tryz.underlying46 hi0 iz0 iz1 iz2 rfl (by omega) _ (l.take t) rfl (hown1.out.alloc _) _ (some ⟨w1.heap.size, 0, none⟩) 1 1 [n] rfl rfl (rw_int1 rfl (Nat.lt_succ_self _)) ?_ ?_ ?_ ?_
                 · rw [htl]; (try simp [maxLen]) <;> omega
                 · rw [htl]; (try simp) <;> omega
                 · (try simp) <;> omega
                 intro v2 w2 hown2 hg2 hat2
                 have hz2 := hg2.size
                 (try simp at hz2)
                 replace hown2 := Lib.hid hown2
                 have hb2 : Below w.heap.size w w2 := Below.grown (by repeat (first | (with_reducible exact Below.refl _ _) | (with_reducible refine Below.drew ?_) | (with_reducible refine below_drewN ?_ _) | ((with_reducible refine Below.alloc ?_ ?_ _); rotate_left; focus ((try simp) <;> omega)) | ((with_reducible refine Below.setCell ?_ ?_ _); rotate_left; focus ((try simp) <;> omega)) | ((with_reducible refine Below.trans ?_ (Below.mono (by assumption) ?_)); rotate_left; focus ((try simp) <;> omega)))) hg2 (by (try simp) <;> omega) (fun q hq => (hown1.out.lt q hq).1))
              | (at_builtin
                 refine wpList_append_rw _ rfl (.tmp 31) (.tmp 34) _ rfl iE_len iE_one w.heap.size 3 inf _ 8 Tryz.underlying46 hi0 iz0 iz1 iz2 rfl (by omega) _ (l.take t ++ [n]) rfl hown2.out _ _ 0 _ (l.drop t) hdl0 rfl ((hR3.out _ 0 _)) ?_ ?_ ?_ ?_
                 · rw [List.length_append, htl, List.length_singleton]; (try simp [maxLen]) <;> omega
                 · rw [List.length_append, htl, List.length_singleton]; (try simp) <;> omega
                 · (try simp) <;> omega
                 intro v3 w3 hown3 hg3 hat3
                 have hz3 := hg3.size
                 (try simp at hz3)
                 have hb3 : Below w.heap.size w w3 := Below.grown (by repeat (first | (with_reducible exact Below.refl _ _) | (with_reducible refine Below.drew ?_) | (with_reducible refine below_drewN ?_ _) | ((with_reducible refine Below.alloc ?_ ?_ _); rotate_left; focus ((try simp) <;> omega)) | ((with_reducible refine Below.setCell ?_ ?_ _); rotate_left; focus ((try simp) <;> omega)) | ((with_reducible refine Below.trans ?_ (Below.mono (by assumption) ?_)); rotate_left; focus ((try simp) <;> omega)))) hg3 (by (try simp) <;> omega) (fun q hq => (hown2.out.lt q hq).1)))
            obtain ⟨A3, c3, hv3, _, _, _⟩ := hown3.form
            subst hv3
            go_ret
            exact ⟨A3, c3, _, rfl, hown3, hout.out, hb3⟩
set_option maxRecDepth 100000 in
set_option maxHeartbeats 4000000 in
theorem rmedian_any (A : Option Addr) (c : Nat) (l : List I64) (w : World) (hr : Rw iE 1 w w.heap.size A l) (hn : l.length ≤ 1000000) :
    Calls Tryz.prog 24 #[.slice A l.length c] w fun e w' => e = .returned (.int .i64 (medI (valI l))) ∧ Below w.heap.size w w' := by
  have hrd : Hid (Rw iE 1 w w.heap.size A l) := Lib.hid hr
  have hpt : Hid (∀ (v : Value) (L : List I64) (n : I64) (W : World), Own iE 1 3 W w.heap.size v L → L.length ≤ 1000000 → w.heap.size ≤ W.heap.size → Calls Tryz.prog 46 #[v, .int .i64 n.1] W fun e w' => ∃ A' c' L', e = .returned (.slice A' L'.length c') ∧ Own iE 1 3 w' w.heap.size (.slice A' L'.length c') L' ∧ PutOut L L' n ∧ Below W.heap.size W w') := Lib.hid fun v L n W ho hl hz => by
    obtain ⟨A0, c0, rfl, h1, _, _⟩ := ho.form
    refine (rputi_any A0 c0 L n W (ho.reads iE_len) h1 hl).mono ?_
    rintro e w' ⟨A', c', L', rfl, h2, h3, h4⟩
    exact ⟨A', c', L', rfl, Own.base h2 hz, h3, h4⟩
  clear hr
  obtain ⟨R, hR⟩ : ∃ R, medI (valI l) = R := ⟨_, rfl⟩
  rw [hR]
  replace hR := Lib.hid hR
  go_enter Tryz.func24, Tryz.ntmps24
  go_wp2_with fail
  go_loopw [3, 4] (fun vo vi wr => ∃ (k : Nat) (L : List I64), k ≤ l.length ∧ vi = .int .i64 (k : Int) ∧ Own iE 1 3 wr w.heap.size vo L ∧ (valI L).Perm (valI (l.take k)) ∧ UpI (valI L) ∧ Below w.heap.size w wr) (fun _ vi _ => l.length - (intOf vi).toNat)
  case atStart => exact ⟨0, [], Nat.zero_le _, rfl, Own.nil _ _ _, List.Perm.refl _, List.Pairwise.nil, Below.refl _ _⟩
  case round =>
    obtain ⟨k, L, hk, rfl, hown, hpm, hup, hbw⟩ := hrel
    have hz := hbw.size
    have hLl : L.length = k := by
      have h := hpm.length_eq
      rw [val_len, val_len, List.length_take] at h
      omega
    by_cases hkl : k < l.length
    · obtain ⟨n, hx⟩ := get_some hkl
      obtain ⟨g, o, rfl, hg, hq⟩ := hrd.out (by omega)
      have hq0 := hq k n hx 0 (.int .i64 n.1) rfl
      rw [Nat.mul_one, Nat.add_zero] at hq0
      have q0 := (hbw.cell (p := ⟨g, o + k, none⟩) hg).trans hq0
      clear hq hq0
      have i0 : (0 : Int) ≤ (k : Int) := by omega
      have i1 : (k : Int) < (l.length : Int) := by omega
      have hp := Lib.hid (hpt.out u3 L n wr hown (by omega) hz)
      have hnx : Hid (∀ L' : List I64, PutOut L L' n → (valI L').Perm (valI (l.take (k + 1))) ∧ UpI (valI L')) := Lib.hid fun L' h => by
        refine ⟨h.1.trans ?_, h.2 hup⟩
        rw [List.take_add_one, hx, val_app]
        refine (List.Perm.cons _ hpm).trans ?_
        exact (List.perm_append_comm (l₁ := [n.1]) (l₂ := valI (l.take k)))
      replace hx := Lib.hid hx
      replace hLl := Lib.hid hLl
      replace hown := Lib.hid hown
      replace hpm := Lib.hid hpm
      go_wp2_with (go_at_call 46; go_must (refine hp.out.mono ?_; rintro e w2 ⟨A2, c2, L2, rfl, ho2, hpo2, hb2⟩; have hz2 := hb2.size; replace ho2 := Lib.hid ho2; replace hpo2 := Lib.hid hpo2))
      go_roundw
      case rel => exact ⟨k + 1, L2, hkl, by go_num, ho2.out, (hnx.out L2 hpo2.out).1, (hnx.out L2 hpo2.out).2, (by repeat (first | (with_reducible exact Below.refl _ _) | (with_reducible refine Below.drew ?_) | (with_reducible refine below_drewN ?_ _) | ((with_reducible refine Below.alloc ?_ ?_ _); rotate_left; focus ((try simp) <;> omega)) | ((with_reducible refine Below.setCell ?_ ?_ _); rotate_left; focus ((try simp) <;> omega)) | ((with_reducible refine Below.trans ?_ (Below.mono (by assumption) ?_)); rotate_left; focus ((try simp) <;> omega))))⟩
      case measure => simp [intOf]; omega
    · have i1 : ¬ (k : Int) < (l.length : Int) := by omega
      obtain rfl : k = l.length := by omega
      rw [List.take_length] at hpm
      obtain ⟨A4, c4, e4, _, _, _⟩ := hown.form
      subst e4
      have hrL := hown.reads iE_len
      rcases Nat.eq_zero_or_pos l.length with h0 | h0
      · have hl0 : l = [] := List.eq_nil_of_length_eq_zero h0
        have hL0 : L = [] := List.eq_nil_of_length_eq_zero (by omega)
        have hRz : Hid (R = 0) := Lib.hid (by rw [← hR.out, hl0]; rfl)
        subst hL0
        replace hl0 := Lib.hid hl0
        clear h0 hLl i1
        go_wp2_with fail
        go_ret
        exact ⟨by rw [hRz.out]; rfl, hbw⟩
      · have hne : valI l ≠ [] := fun e => by have := congrArg List.length e; rw [val_len, List.length_nil] at this; omega
        have hmd := med_of hpm hup hne
        rw [val_len, hR.out] at hmd
        obtain ⟨md, hmd0⟩ : ∃ md, (l.length - 1) / 2 = md := ⟨_, rfl⟩
        rw [hmd0] at hmd
        have hm1 : md < L.length := by omega
        obtain ⟨y, hy⟩ := get_some hm1
        have hyR : y.1 = R := by
          have h : (valI L)[md]? = some y.1 := by unfold valI; rw [List.getElem?_map, hy]; rfl
          rw [hmd] at h
          simpa using h.symm
        obtain ⟨g4, o4, rfl, hg4, hq4⟩ := hrL (by omega)
        have q4 := hq4 md y hy 0 (.int .i64 y.1) rfl
        rw [Nat.mul_one, Nat.add_zero, hyR] at q4
        clear hq4
        have m0 : (0 : Int) ≤ (md : Int) := by omega
        have m1 : (md : Int) < (L.length : Int) := by omega
        have m2 : ((L.length : Int) - 1) / 2 = (md : Int) := by omega
        have hnz : ((L.length : Int) == 0) = false := by rw [beq_eq_false_iff_ne]; omega
        have hnl : L.length ≤ 1000000 := by omega
        have hnp : ¬ (L.length : Int) = 0 := by omega
        replace hmd0 := Lib.hid hmd0
        replace hmd := Lib.hid hmd
        replace hy := Lib.hid hy
        replace hyR := Lib.hid hyR
        replace hLl := Lib.hid hLl
        replace hpm := Lib.hid hpm
        go_wp2_with fail
        go_ret
        exact ⟨rfl, hbw⟩

end Go.Proofs.YtdjepnilmgembaaGreatDoor
