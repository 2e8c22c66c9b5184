/-
  The walks of fairness: the projects in the order in which they are served, by the program.
-/
import Derived.Test.YtopicpghhpkgbaaDoorFa13
import Derived.Test.YtopicpghhpkgbaaDoorSortK
import Derived.Test.YtopicpghhpkgbaaDoorSortLay




namespace Go.Proofs.YtopicpghhpkgbaaDoor
open Go.RowKit
open Go.Sort hiding Below

/-- A valid share. -/
abbrev VS : Type := { x : Share // okS x = true }
instance : Inhabited VS := ⟨⟨sA, by decide +kernel⟩⟩
def encV (x : VS) : List Value := shareE x.1
def cfV (x y : VS) : Int := befS x.1 y.1
theorem encV_len (x : VS) : (encV x).length = 3 := shareE_len x.1
theorem encV_one (x : VS) : ∀ u ∈ encV x, u.oneCell' = true := shareE_one x.1
theorem ltV (x y : VS) : ltOf cfV x y = befB x.1 y.1 := rfl
theorem swoV : SWO (ltOf cfV) where
  irrefl x := by rw [ltV]; exact bef_irrefl x.1
  trans x y z h1 h2 := by rw [ltV] at *; exact bef_trans x.2 y.2 z.2 h1 h2
  ntrans x y z h1 h2 := by rw [ltV] at *; exact bef_ntrans x.2 y.2 z.2 h1 h2
theorem own_vs {w : World} {H : Nat} {v : Value} {l : List Share} (h : Own shareE 3 39 w H v l) (hok : ∀ x ∈ l, okS x = true) : ∃ lv : List VS, lv.map (·.1) = l ∧ Own encV 3 39 w H v lv := by
  have hm : (l.pmap (fun x h => (⟨x, h⟩ : VS)) hok).map (·.1) = l := by rw [List.map_pmap]; simp
  refine ⟨_, hm, ?_⟩
  have hf : ∀ lv : List VS, lv.flatMap encV = (lv.map (·.1)).flatMap shareE := fun lv => by
    rw [List.flatMap_map]; rfl
  unfold Own at h ⊢
  rw [hf, hm, List.length_pmap]
  exact h
theorem rw_vs {w : World} {B : Nat} {A : Option Addr} {lv : List VS} (h : Rw encV 3 w B A lv) : Rw shareE 3 w B A (lv.map (·.1)) := fun hn => by
  obtain ⟨g, o, e, hb, hc⟩ := h (by simpa using hn)
  refine ⟨g, o, e, hb, fun i x hx j u hu => ?_⟩
  rw [List.getElem?_map] at hx
  rcases hy : lv[i]? with _ | y
  · rw [hy] at hx; cases hx
  · rw [hy] at hx
    obtain rfl : y.1 = x := by simpa using hx
    exact hc i y hy j u hu
theorem order1_any (x y : Share) (w : World) :
    Calls Tryd.prog 42 #[.agg #[.string x.proj.1, .int .i64 x.weight.1, .int .i64 x.served.1], .agg #[.string y.proj.1, .int .i64 y.weight.1, .int .i64 y.served.1]] w fun e w' => e = .returned (.int .i64 (befS x y)) ∧ Bel w.heap.size w w' := by
  have h1 := fun W => before_any x y W
  generalize befS x y = C at h1 ⊢
  replace h1 := Lib.hid h1
  go_enter Tryd.func42, Tryd.ntmps42
  go_wp2_with (go_at_call 28; go_must (refine (h1.out _).mono ?_; rintro e w2 ⟨rfl, hb2⟩; have hz2 := hb2.size))
  go_ret
  exact ⟨rfl, (by repeat (first | (with_reducible exact Bel.refl _ _) | (with_reducible refine Bel.drew ?_) | (with_reducible refine Bel.drewN ?_ _) | ((with_reducible refine Bel.alloc ?_ ?_ _); rotate_left; focus ((try simp) <;> omega)) | ((with_reducible refine Bel.setCell ?_ ?_ _); rotate_left; focus ((try simp) <;> omega)) | ((with_reducible refine Bel.trans ?_ (Bel.mono (by assumption) ?_)); rotate_left; focus ((try simp) <;> omega))))⟩
theorem sortshare_any (v : Value) (l : List Share) (H : Nat) (w : World) (hown : Own shareE 3 39 w H v l) (hok : ∀ x ∈ l, okS x = true) (hH : H ≤ w.heap.size) (hn : l.length < 4611686018427387904) :
    Calls Tryd.prog 41 #[v, .func (.func 42) #[] #[]] w fun e w' => e = .returned (.tuple #[]) ∧ ∃ A c s, v = .slice A s.length c ∧ s.length ≤ c ∧ s.Perm l ∧ s.Pairwise (fun a b => befB b a = false) ∧ Rw shareE 3 w' w'.heap.size A s ∧ Below H w w' := by
  obtain ⟨lv, rfl, hv⟩ := own_vs hown hok
  have eg : ∀ args w, (callFunc 42 args).run Tryd.prog w = .ok (.enter 42 args) w := enters_of Tryd.func42 (by kernel_rfl) rfl
  have hcm : ∀ g size, H ≤ g → CmpLays Tryd.prog 42 #[] encV 3 cfV g 0 size w := fun g size _ m os dk _ x y => (order1_any x.1 y.1 _).mono fun e w' h => ⟨h.1, h.2.grow⟩
  have hso := sorted_own Tryd.sortShare (fun w => Tryd.isAgg39 w) (fun w => Tryd.sizeOf39 w) encV_len encV_one (by omega) cfV swoV 42 #[] eg hcm hv hH (by simpa using hn)
  change Calls Tryd.prog 41 _ _ _ at hso
  refine hso.mono ?_
  rintro e w1 ⟨rfl, A, c, s, rfl, h1, h2, h3, h4, h5⟩
  have h3' : s.Pairwise (fun a b => befB b.1 a.1 = false) := h3.imp fun {a b} h => by rw [← ltV]; exact h
  exact ⟨rfl, A, c, s.map (·.1), by rw [List.length_map], by rw [List.length_map]; exact h1, h2.map _, by rw [List.pairwise_map]; exact h3', rw_vs h4, h5⟩

theorem rw_one (w : World) (x : Str) : Rw sE 1 (w.alloc (.cells #[.string x.1] 9)) (w.heap.size + 1) (some ⟨w.heap.size, 0, none⟩) [x] := fun _ => ⟨w.heap.size, 0, rfl, by omega, fun i z hz j u hu => by
  have hj : j = 0 := by have := (List.getElem?_eq_some_iff.1 hu).1; simp [sE] at this; exact this
  subst hj
  obtain rfl : Value.string z.1 = u := by simpa [sE] using hu
  rcases i with _ | i
  · obtain rfl : x = z := by simpa using hz
    exact box_cells w _ _ 0 _ rfl
  · simp at hz⟩
theorem str_info : (Tryd.prog.info? 9).map (fun i => (i.zero, i.size, i.bytes)) = some (some (.string ByteArray.empty), 1, 16) := by kernel_rfl
/-- What Order returns. -/
def OrdOut (l : List Share) (os : List Str) : Prop := (validS l = false → os = []) ∧ (validS l = true → ∃ s : List Share, s.Perm l ∧ s.Pairwise (fun a b => befB b a = false) ∧ os = s.map (·.proj))

set_option maxRecDepth 100000 in
set_option maxHeartbeats 4000000 in
theorem ordS_any (A : Option Addr) (c : Nat) (l : List Share) (w : World) (hr : Rw shareE 3 w w.heap.size A l) (hn : l.length ≤ 1000000) :
    Calls Tryd.prog 22 #[.slice A l.length c] w fun e w' => ∃ A' c' os, e = .returned (.slice A' os.length c') ∧ OrdOut l os ∧ Rw sE 1 w' w'.heap.size A' os ∧ os.length ≤ c' ∧ Below w.heap.size w w' := by
  have hva : Hid (Calls Tryd.prog 23 #[.slice A l.length c] w fun e w' => e = .returned (.bool (validS l)) ∧ Below w.heap.size w w') := Lib.hid (valid_any A c l w hr (by omega))
  have hcl : Hid (∀ W, Below w.heap.size w W → Calls Tryd.prog 29 #[.slice A l.length c] W fun e w' => ∃ v, e = .returned v ∧ Own shareE 3 39 w' w.heap.size v l ∧ Below W.heap.size W w') := Lib.hid fun W hb => (sclone_own A c l W ((hr.below hb (Nat.le_refl _)).more hb.size) hn).mono fun _ _ ⟨v, h1, h2, h3⟩ => ⟨v, h1, own_more h2 hb.size, h3⟩
  clear hr
  rcases hv : validS l with _ | _
  · rw [hv] at hva
    have hout : OrdOut l [] := ⟨fun _ => rfl, fun h => by rw [hv] at h; cases h⟩
    replace hout := Lib.hid hout
    replace hv := Lib.hid hv
    go_enter Tryd.func22, Tryd.ntmps22
    go_wp2_with (go_at_call 23; go_must (refine hva.out.mono ?_; rintro e w1 ⟨rfl, hb1⟩; have hz1 := hb1.size))
    go_ret
    exact ⟨none, 0, [], rfl, hout.out, Rw.nil, Nat.le_refl _, hb1⟩
  · rw [hv] at hva
    obtain ⟨inf, hi0, iz0, iz1, iz2⟩ := info_parts str_info
    have hso : Hid (∀ v W, Own shareE 3 39 W w.heap.size v l → w.heap.size ≤ W.heap.size → Calls Tryd.prog 41 #[v, .func (.func 42) #[] #[]] W fun e w' => e = .returned (.tuple #[]) ∧ ∃ A c s, v = .slice A s.length c ∧ s.length ≤ c ∧ s.Perm l ∧ s.Pairwise (fun a b => befB b a = false) ∧ Rw shareE 3 w' w'.heap.size A s ∧ Below w.heap.size W w') := Lib.hid fun v W hown hH => sortshare_any v l w.heap.size W hown (fun x hx => valid_ok hv hx) hH (by omega)
    have hfin : Hid (∀ s : List Share, s.Perm l → s.Pairwise (fun a b => befB b a = false) → OrdOut l (s.map (·.proj))) := Lib.hid fun s h1 h2 => ⟨(fun h => by rw [hv] at h; cases h), fun _ => ⟨s, h1, h2, rfl⟩⟩
    replace hv := Lib.hid hv
    go_enter Tryd.func22, Tryd.ntmps22
    go_wp2_with (first
      | (go_at_call 23; go_must (refine hva.out.mono ?_; rintro e w1 ⟨rfl, hb1⟩; have hz1 := hb1.size))
      | (go_at_call 29; go_must (refine (hcl.out _ (by repeat (first | (with_reducible exact Below.refl _ _) | (with_reducible refine Below.drew ?_) | (with_reducible refine below_drewN ?_ _) | ((with_reducible refine Below.alloc ?_ ?_ _); rotate_left; focus ((try simp) <;> omega)) | ((with_reducible refine Below.setCell ?_ ?_ _); rotate_left; focus ((try simp) <;> omega)) | ((with_reducible refine Below.trans ?_ (Below.mono (by assumption) ?_)); rotate_left; focus ((try simp) <;> omega))))).mono ?_; rintro e w2 ⟨v2, rfl, hown2, hb2⟩; have hz2 := hb2.size))
      | (go_at_call 41; go_must (refine (hso.out _ _ hown2 (by omega)).mono ?_; rintro e w3 ⟨rfl, A3, c3, s, rfl, hsc, hpm, hpw, hr3, hb3⟩; have hz3 := hb3.size)))
    have hS := Nat.le_refl w3.heap.size
    replace hpm := Lib.hid hpm
    replace hpw := Lib.hid hpw
    replace hr3 := Lib.hid hr3
    replace hown2 := Lib.hid hown2
    have hlen : s.length = l.length := hpm.out.length_eq
    have hl1 := Nat.le_of_eq hlen
    replace hlen := Lib.hid hlen
    have hb03 : Below w.heap.size w w3 := (by repeat (first | (with_reducible exact Below.refl _ _) | (with_reducible refine Below.drew ?_) | (with_reducible refine below_drewN ?_ _) | ((with_reducible refine Below.alloc ?_ ?_ _); rotate_left; focus ((try simp) <;> omega)) | ((with_reducible refine Below.setCell ?_ ?_ _); rotate_left; focus ((try simp) <;> omega)) | ((with_reducible refine Below.trans ?_ (Below.mono (by assumption) ?_)); rotate_left; focus ((try simp) <;> omega))))
    go_loopw [4, 16] (fun vv vi wr => ∃ k : Nat, k ≤ s.length ∧ vi = .int .i64 (k : Int) ∧ Own sE 1 9 wr w3.heap.size vv ((s.take k).map (·.proj)) ∧ Below w3.heap.size w3 wr) (fun _ vi _ => s.length - (intOf vi).toNat)
    case atStart => exact ⟨0, Nat.zero_le _, rfl, Own.nil _ _ _, Below.refl _ _⟩
    case round =>
      obtain ⟨k, hk, rfl, hown, hbw⟩ := hrel
      have hz := hbw.size
      by_cases hks : k < s.length
      · obtain ⟨x, hx⟩ := get_some hks
        obtain ⟨g, o, rfl, hg, hq⟩ := hr3.out (by omega)
        have q : ∀ j u, (shareE x)[j]? = some u → wr.cell? ⟨g, o + k * 3 + j, none⟩ = some u := fun j u hu => (hbw.cell (p := ⟨g, o + k * 3 + j, none⟩) hg).trans (hq k x hx j u hu)
        have q0 := q 0 (.string x.proj.1) rfl
        rw [Nat.add_zero] at q0
        have q1 := q 1 (.int .i64 x.weight.1) rfl
        have q2 := q 2 (.int .i64 x.served.1) rfl
        clear q hq
        have i0 : (0 : Int) ≤ (k : Int) := by omega
        have i1 : (k : Int) < (s.length : Int) := by omega
        have hnx : Hid (((s.take k).map (·.proj)) ++ [x.proj] = (s.take (k + 1)).map (·.proj)) := Lib.hid (by rw [List.take_add_one, hx, List.map_append]; rfl)
        have hnl : ((s.take k).map (·.proj)).length = k := by rw [List.length_map, List.length_take]; omega
        obtain ⟨ns, hns⟩ : ∃ ns, (s.take k).map (·.proj) = ns := ⟨_, rfl⟩
        rw [hns] at hown hnx hnl
        have hnl1 := Nat.le_of_eq hnl
        replace hnl := Lib.hid hnl
        replace hns := Lib.hid hns
        replace hx := Lib.hid hx
        obtain ⟨W1, hW1⟩ : ∃ W1, wr.alloc (.cells #[.string x.proj.1, .int .i64 x.weight.1, .int .i64 x.served.1] 39) = W1 := ⟨_, rfl⟩
        have hbA : Below w3.heap.size w3 W1 := by rw [← hW1]; exact hbw.alloc (by omega) _
        have hzA : W1.heap.size = wr.heap.size + 1 := by rw [← hW1]; simp
        have a0 := box_cells wr #[.string x.proj.1, .int .i64 x.weight.1, .int .i64 x.served.1] 39 0 _ rfl
        rw [hW1] at a0
        have hownA := hown.alloc (.cells #[.string x.proj.1, .int .i64 x.weight.1, .int .i64 x.served.1] 39)
        rw [hW1] at hownA
        have hlit := rw_one W1 x.proj
        have hzA1 := Nat.le_of_eq hzA
        have hzA2 := Nat.le_of_eq hzA.symm
        replace hzA := Lib.hid hzA
        replace hownA := Lib.hid hownA
        replace hlit := Lib.hid hlit
        go_wp2_with (at_builtin
                     refine wpList_append_rw _ rfl (.tmp 20) (.tmp 23) _ rfl sE_len sE_one w3.heap.size 9 inf _ 16 Tryd.underlying32 hi0 iz0 iz1 iz2 rfl (by omega) _ ns rfl (hownA.out.alloc _) (W1.heap.size + 1) (some ⟨W1.heap.size, 0, none⟩) 1 1 [x.proj] rfl rfl hlit.out ?_ ?_ ?_ ?_
                     · (try simp [maxLen]) <;> omega
                     · (try simp) <;> omega
                     · (try simp) <;> omega
                     intro v4 w4 hown4 hg4 hat4
                     have hz4 := hg4.size)
        go_roundw
        case rel => exact ⟨k + 1, hks, by go_num, by rw [← hnx.out]; exact hown4, (hbA.alloc (by omega) _).grown hg4 (by simp; omega) (fun g hg => (hown.lt g hg).1)⟩
        case measure => simp [intOf]; omega
      · have i1 : ¬ (k : Int) < (s.length : Int) := by omega
        have hout := Lib.hid (hfin.out s hpm.out hpw.out)
        have hsk : s.take k = s := List.take_of_length_le (by omega)
        rw [hsk] at hown
        replace hsk := Lib.hid hsk
        obtain ⟨A4, c4, hv4, h1, _, _⟩ := hown.form
        obtain ⟨os, hos⟩ : ∃ os, s.map (·.proj) = os := ⟨_, rfl⟩
        rw [hos] at hown hv4 h1 hout
        replace hos := Lib.hid hos
        subst hv4
        have hr4 := Lib.hid (hown.reads sE_len)
        replace hown := Lib.hid hown
        go_wp2_with fail
        go_ret
        exact ⟨A4, c4, os, rfl, hout.out, hr4.out, h1, hb03.trans (hbw.mono (by omega))⟩
end Go.Proofs.YtopicpghhpkgbaaDoor
