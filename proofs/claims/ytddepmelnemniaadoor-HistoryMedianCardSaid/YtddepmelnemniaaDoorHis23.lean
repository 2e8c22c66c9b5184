/-
  The walks of histories: results added, by the program.
-/
import Derived.Test.YtddepmelnemniaaDoorHis22
import Derived.Deep.RegionHeld3



namespace Go.Proofs.YtddepmelnemniaaDoor
open Go.RowKit

theorem sampR_cells (r : Res) (code : U64) (now : I64) : sampE (sampR r code now) = [.int .u64 code.1, .int .i64 r.status.1, .int .i64 r.time.1, .int .i64 now.1] := rfl
theorem rw_samp {w : World} {g B : Nat} {x : Samp} (hg : g = w.heap.size) (hB : g < B) : Rw sampE 4 (w.alloc (.cells #[.int .u64 x.code.1, .int .i64 x.status.1, .int .i64 x.time.1, .int .i64 x.stamp.1] 42)) B (some ⟨g, 0, none⟩) [x] := by
  subst hg
  refine fun _ => ⟨_, 0, rfl, hB, fun i y hy j u hu => ?_⟩
  match i, hy with
  | 0, hy =>
    obtain rfl : x = y := by simpa using hy
    match j, hu with
    | 0, hu => obtain rfl : Value.int .u64 x.code.1 = u := by simpa [sampE] using hu
               exact box_cells w _ _ 0 _ rfl
    | 1, hu => obtain rfl : Value.int .i64 x.status.1 = u := by simpa [sampE] using hu
               exact box_cells w _ _ 1 _ rfl
    | 2, hu => obtain rfl : Value.int .i64 x.time.1 = u := by simpa [sampE] using hu
               exact box_cells w _ _ 2 _ rfl
    | 3, hu => obtain rfl : Value.int .i64 x.stamp.1 = u := by simpa [sampE] using hu
               exact box_cells w _ _ 3 _ rfl
    | j + 4, hu => simp [sampE] at hu
  | i + 1, hy => simp at hy
/-- The latest samples of a list of the call's own, cut off at its head. -/
theorem own_cutS {w : World} {H g c a : Nat} {l : List Samp} (h : Own sampE 4 42 w H (.slice (some ⟨g, 0, none⟩) l.length c) l) (ha : a = l.length - 32) (nm : Str) : LabS w ⟨nm, some ⟨g, a * 4, none⟩, c - a, cutS l⟩ := by
  obtain ⟨_, h1, h2, h3⟩ := own_form h
  refine ⟨⟨?_, by show c - a ≤ maxLen; omega, ?_⟩, fun p hp => by cases hp; exact h3⟩
  · show (cutS l).length ≤ c - a
    unfold cutS
    rw [List.length_drop]
    omega
  · show Rw sampE 4 w w.heap.size (some ⟨g, a * 4, none⟩) (cutS l)
    have h4 := h.reads sampE_len
    unfold cutS
    rw [← ha]
    have h5 := h4.cut (a := a) (b := l.length)
    rwa [List.take_length, Nat.zero_add] at h5
theorem map_small {l1 l : List Hst} (e : l1.map Hst.h = l.map Hst.h) (hm : MildH l) : ∀ x ∈ l1, x.l.length ≤ 1000000 := fun x hx => by
  have h1 := List.mem_map_of_mem (f := Hst.h) hx
  rw [e] at h1
  obtain ⟨z, hz, ez⟩ := List.mem_map.1 h1
  have := hm.samps z hz
  rwa [show z.l = x.l from congrArg Hs.l ez] at this
theorem mem_ins {α : Type} {l : List α} {i : Nat} {x z : α} (h : z ∈ l.take i ++ x :: l.drop i) : z ∈ l ∨ z = x := by
  rcases List.mem_append.1 h with h1 | h1
  · exact .inl (List.mem_of_mem_take h1)
  · rcases List.mem_cons.1 h1 with rfl | h2
    · exact .inr rfl
    · exact .inl (List.mem_of_mem_drop h2)
theorem ins_at {α : Type} {l : List α} {i : Nat} {x : α} (h : i ≤ l.length) : (l.take i ++ x :: l.drop i)[i]? = some x := by
  rw [List.getElem?_append_right (by rw [List.length_take]; omega), List.length_take, Nat.min_eq_left h, Nat.sub_self]
  rfl
theorem lab_new (nm : Str) {w : World} : LabS w ⟨nm, none, 0, []⟩ := ⟨⟨Nat.le_refl _, Nat.zero_le _, Rw.nil⟩, fun _ h => by cases h⟩
theorem set_ins {cur : List Hst} {i : Nat} {nm : Str} {s : Samp} (hi : atN nm (cur.map Hst.h) = i) (hH : hasN nm (cur.map Hst.h) = false) (hil : i ≤ cur.length) {x0 y : Hst} (hy : y.h = ⟨nm, cutS ([] ++ [s])⟩) : ((cur.take i ++ x0 :: cur.drop i).set i y).map Hst.h = withL (cur.map Hst.h) nm s := by
  have htl : (cur.take i).length = i := by rw [List.length_take]; omega
  rw [List.set_append_right _ _ (by omega), htl, Nat.sub_self, List.set_cons_zero]
  unfold withL
  rw [if_neg (by rw [hH]; decide), hi, List.map_append, List.map_cons, List.map_take, List.map_drop, hy]
  rfl
set_option maxRecDepth 100000 in
set_option maxHeartbeats 8000000 in
theorem add_rest (A : Option Addr) (c : Nat) (l : List Hst) (Ar : Option Addr) (cr : Nat) (rs : List Res) (code : U64) (now : I64) (w : World) (hr : RwH w w.heap.size A l) (hrr : Rw resE 3 w w.heap.size Ar rs) (hm : MildH l) (hrn : rs.length ≤ 1000000) (hrs : ∀ x ∈ rs, x.name.1.size < 4294967281) (hG : Glob w) (h1 : valErr (l.map Hst.h) = 0) (h2 : repErr rs = 0) (h3 : timeB now.1 = true) :
    Calls Tryd.prog 8 #[.slice A l.length c, .slice Ar rs.length cr, .int .u64 code.1, .int .i64 now.1] w (fun e w' => ∃ (A' : Option Addr) (c' : Nat) (l' : List Hst), e = .returned (.tuple #[.slice A' l'.length c', .int .i64 (addErr (l.map Hst.h) rs now.1)]) ∧ RwH w' w'.heap.size A' l' ∧ l'.length ≤ c' ∧ l'.map Hst.h = addL (l.map Hst.h) rs code now ∧ Below w.heap.size w w') := by
  have hln := hm.len
  have hva0 := fun W (hb : Below w.heap.size w W) => valid_any A c l W ((hr.below hb (Nat.le_refl _)).more hb.size) (by omega) hm.name (hG.keep hb)
  have hrv0 := fun W (hb : Below w.heap.size w W) => repv_any Ar cr rs W ((hrr.below hb (Nat.le_refl _)).more hb.size) (by omega) hrs (hG.keep hb)
  have htm0 := fun W => time_any now.1 W
  have hal : Hid (∀ W, Below w.heap.size w W → Calls Tryd.prog 14 #[.slice A l.length c] W fun e w' => ∃ A' c' l', e = .returned (.slice A' l'.length c') ∧ OwnH w' w.heap.size (.slice A' l'.length c') l' ∧ l'.map Hst.h = l.map Hst.h ∧ (∀ x ∈ l', x.lC = x.l.length) ∧ Below W.heap.size W w') := Lib.hid fun W hb => (all_any A c l W ((hr.below hb (Nat.le_refl _)).more hb.size) hm.len hm.samps).mono fun e w' ⟨A', c', l', h1, h2, h3, h4, h5⟩ => ⟨A', c', l', h1, ⟨h2.row.base hb.size, h2.labs⟩, h3, h4, h5⟩
  rw [h1] at hva0
  rw [h2] at hrv0
  rw [h3] at htm0
  have hva := Lib.hid hva0
  have hrv := Lib.hid hrv0
  have htm := Lib.hid htm0
  have hv := Lib.hid (valid_ok.1 h1)
  have hrep := Lib.hid (rep_ok.1 h2)
  have hpl0 : Hid (∀ (r : Res) W, Below w.heap.size w W → Calls Tryd.prog 18 #[.slice A l.length c, .string r.name.1] W fun e w' => e = .returned (.tuple #[.int .i64 (atN r.name (l.map Hst.h) : Int), .bool (hasN r.name (l.map Hst.h))]) ∧ Below W.heap.size W w') := Lib.hid fun r W hb => place_any A c l r.name W ((hr.row.below hb (Nat.le_refl _)).more hb.size) (by omega)
  have hrw := Lib.hid hrr
  have hrl := Lib.hid hr
  have hmil := Lib.hid hm
  have hE1 := Lib.hid (fun h4 => err_4 (now := now.1) h1 h2 h3 h4)
  have hE2 := Lib.hid (fun h4 h5 => err_5 (now := now.1) h1 h2 h3 h4 h5)
  have hE3 := Lib.hid (fun h4 h5 => err_6 (now := now.1) h1 h2 h3 h4 h5)
  replace h1 := Lib.hid h1
  replace h2 := Lib.hid h2
  replace h3 := Lib.hid h3
  clear hva0 hrv0 htm0 hr hrr hm
  go_enter Tryd.func8, Tryd.ntmps8
  go_wp2_with (first
    | (go_at_call 14; go_must (refine (hal.out _ (by repeat (first | (with_reducible exact Below.refl _ _) | (with_reducible refine Below.drew ?_) | (with_reducible refine below_drewN ?_ _) | ((with_reducible refine Below.alloc ?_ ?_ _); rotate_left; focus ((try simp) <;> omega)) | ((with_reducible refine Below.setCell ?_ ?_ _); rotate_left; focus ((try simp) <;> omega)) | ((with_reducible refine Below.trans ?_ (Below.mono (by assumption) ?_)); rotate_left; focus ((try simp) <;> omega))))).mono ?_; rintro e w1 ⟨A1, c1, l1, rfl, ho1, hm1, hf1, hb1⟩; have hz1 := hb1.size; replace ho1 := Lib.hid ho1; replace hm1 := Lib.hid hm1; replace hf1 := Lib.hid hf1))
    | (go_at_call 15; go_must (refine (hva.out _ (by repeat (first | (with_reducible exact Below.refl _ _) | (with_reducible refine Below.drew ?_) | (with_reducible refine below_drewN ?_ _) | ((with_reducible refine Below.alloc ?_ ?_ _); rotate_left; focus ((try simp) <;> omega)) | ((with_reducible refine Below.setCell ?_ ?_ _); rotate_left; focus ((try simp) <;> omega)) | ((with_reducible refine Below.trans ?_ (Below.mono (by assumption) ?_)); rotate_left; focus ((try simp) <;> omega))))).mono ?_; rintro e w2 ⟨rfl, hb2⟩; have hz2 := hb2.size))
    | (go_at_call 16; go_must (refine (hrv.out _ (by repeat (first | (with_reducible exact Below.refl _ _) | (with_reducible refine Below.drew ?_) | (with_reducible refine below_drewN ?_ _) | ((with_reducible refine Below.alloc ?_ ?_ _); rotate_left; focus ((try simp) <;> omega)) | ((with_reducible refine Below.setCell ?_ ?_ _); rotate_left; focus ((try simp) <;> omega)) | ((with_reducible refine Below.trans ?_ (Below.mono (by assumption) ?_)); rotate_left; focus ((try simp) <;> omega))))).mono ?_; rintro e w3 ⟨rfl, hb3⟩; have hz3 := hb3.size))
    | (go_at_call 17; go_must (refine (htm.out _).mono ?_; rintro e w4 ⟨rfl, rfl⟩)))
  have hB3 : Hid (Below w.heap.size w w3) := Lib.hid (by repeat (first | (with_reducible exact Below.refl _ _) | (with_reducible refine Below.drew ?_) | (with_reducible refine below_drewN ?_ _) | ((with_reducible refine Below.alloc ?_ ?_ _); rotate_left; focus ((try simp) <;> omega)) | ((with_reducible refine Below.setCell ?_ ?_ _); rotate_left; focus ((try simp) <;> omega)) | ((with_reducible refine Below.trans ?_ (Below.mono (by assumption) ?_)); rotate_left; focus ((try simp) <;> omega))))
  go_loopw [13, 44] (fun vf vi wr => ∃ k f : Nat, k ≤ rs.length ∧ vi = .int .i64 (k : Int) ∧ vf = .int .i64 (f : Int) ∧ f ≤ k ∧ f = freshN (l.map Hst.h) (rs.take k) ∧ (rs.take k).any (lateR (l.map Hst.h) now.1) = false ∧ Below w3.heap.size w3 wr) (fun _ vi _ => rs.length - (intOf vi).toNat)
  case atStart => exact ⟨0, 0, Nat.zero_le _, rfl, rfl, Nat.le_refl _, rfl, rfl, Below.refl _ _⟩
  case round =>
    obtain ⟨k, f, hk, rfl, rfl, hfk, hff, hlt, hbw⟩ := hrel
    have hz := hbw.size
    have hbw0 : Hid (Below w.heap.size w wr) := Lib.hid (hB3.out.trans (hbw.mono (by omega)))
    by_cases hkl : k < rs.length
    · obtain ⟨r, hr⟩ := get_some hkl
      obtain ⟨gr, orr, hAr, hgr, hq⟩ := hrw.out (by omega)
      have q := fun j u hu => (hbw0.out.cell (p := ⟨gr, orr + k * 3 + j, none⟩) hgr).trans (hq k r hr j u hu)
      have b0 := q 0 (.string r.name.1) rfl
      rw [Nat.add_zero] at b0
      have b1 := q 1 (.int .i64 r.status.1) rfl
      have b2 := q 2 (.int .i64 r.time.1) rfl
      clear q hq
      subst hAr
      have i0 : (0 : Int) ≤ (k : Int) := by omega
      have i1 : (k : Int) < (rs.length : Int) := by omega
      have hgrr : gr < wr.heap.size := by omega
      have ngr : gr ≠ wr.heap.size := by omega
      have hfs := fresh_succ (L := l.map Hst.h) hr
      have hls := late_succ hr hlt
      have hhere := Lib.hid (late_here (L := l.map Hst.h) (now := now.1) hr)
      have hpl1 := hpl0.out r
      have hno := old_none (L := l.map Hst.h) (p := r.name)
      have hyes := at_hst (l := l) (p := r.name)
      have hlno := Lib.hid (late_no (L := l.map Hst.h) (r := r) (now := now.1))
      obtain ⟨i, hi⟩ : ∃ i, atN r.name (l.map Hst.h) = i := ⟨_, rfl⟩
      rw [hi] at hpl1 hyes
      replace hi := Lib.hid hi
      have hlast := Lib.hid (fun (l1 : List Samp) (s : Samp) (m : Nat) (h : oldS (l.map Hst.h) r.name = l1) => late_last (now := now.1) (s := s) (m := m) h)
      rcases hH : hasN r.name (l.map Hst.h) with _ | _
      · rw [hH] at hpl1 hfs
        have hpl := Lib.hid hpl1
        rw [if_neg (by decide)] at hfs
        have hf2 : Hid (f + 1 = freshN (l.map Hst.h) (rs.take (k + 1))) := Lib.hid (by omega)
        have hl2 : Hid ((rs.take (k + 1)).any (lateR (l.map Hst.h) now.1) = false) := Lib.hid (by rw [hls]; exact hlno.out (hno hH))
        clear hpl1 hno hyes hls hfs hff hlt
        replace hH := Lib.hid hH
        replace hr := Lib.hid hr
        go_wp2_with (go_at_call 18; go_must (refine (hpl.out _ (by repeat (first | (with_reducible exact Below.refl _ _) | (with_reducible refine Below.drew ?_) | (with_reducible refine below_drewN ?_ _) | ((with_reducible refine Below.alloc ?_ ?_ _); rotate_left; focus ((try simp) <;> omega)) | ((with_reducible refine Below.setCell ?_ ?_ _); rotate_left; focus ((try simp) <;> omega)) | ((with_reducible refine Below.trans ?_ (Below.mono (by assumption) ?_)); rotate_left; focus ((try simp) <;> omega))))).mono ?_; rintro e w5 ⟨rfl, hb5⟩; have hz5 := hb5.size; (try simp at hz5); obtain ⟨hd5, he5⟩ := blk_at hb5 wr.heap.size (by (try simp) <;> omega); skip))
        go_roundw
        case rel => exact ⟨k + 1, f + 1, hkl, by go_num, by go_num, by omega, hf2.out, hl2.out, (by repeat (first | (with_reducible exact Below.refl _ _) | (with_reducible refine Below.drew ?_) | (with_reducible refine below_drewN ?_ _) | ((with_reducible refine Below.alloc ?_ ?_ _); rotate_left; focus ((try simp) <;> omega)) | ((with_reducible refine Below.setCell ?_ ?_ _); rotate_left; focus ((try simp) <;> omega)) | ((with_reducible refine Below.trans ?_ (Below.mono (by assumption) ?_)); rotate_left; focus ((try simp) <;> omega))))⟩
        case measure => simp [intOf]; omega
      · obtain ⟨x, hx, hxn, hxo⟩ := hyes hH
        rw [hH] at hpl1 hfs
        have hpl := Lib.hid hpl1
        rw [if_pos rfl] at hfs
        have hf2 : Hid (f = freshN (l.map Hst.h) (rs.take (k + 1))) := Lib.hid (by omega)
        have hil := (List.getElem?_eq_some_iff.1 hx).1
        obtain ⟨g, o, rfl, hg, hq⟩ := hrl.out.row (by omega)
        have q1 := (hbw0.out.cell (p := ⟨g, o + i * 2 + 1, none⟩) hg).trans (hq i x hx 1 (.slice x.lA x.l.length x.lC) rfl)
        have hlb := (hrl.out.labs x (List.mem_of_getElem? hx)).2.2
        clear hq
        have j0 : (0 : Int) ≤ (i : Int) := by omega
        have j1 : (i : Int) < (l.length : Int) := by omega
        have ng : g ≠ wr.heap.size := by omega
        have hgw : g < wr.heap.size := by omega
        by_cases hx0 : x.l.length = 0
        · have hl2 : Hid ((rs.take (k + 1)).any (lateR (l.map Hst.h) now.1) = false) := Lib.hid (by rw [hls]; exact hlno.out (by rw [hxo]; exact List.eq_nil_of_length_eq_zero hx0))
          have e0 : ¬ (0 : Int) < (x.l.length : Int) := by omega
          clear hpl1 hno hyes hls hfs hff hlt hlb
          replace hH := Lib.hid hH
          replace hr := Lib.hid hr
          replace hx := Lib.hid hx
          replace hxn := Lib.hid hxn
          replace hxo := Lib.hid hxo
          replace hx0 := Lib.hid hx0
          go_wp2_with (go_at_call 18; go_must (refine (hpl.out _ (by repeat (first | (with_reducible exact Below.refl _ _) | (with_reducible refine Below.drew ?_) | (with_reducible refine below_drewN ?_ _) | ((with_reducible refine Below.alloc ?_ ?_ _); rotate_left; focus ((try simp) <;> omega)) | ((with_reducible refine Below.setCell ?_ ?_ _); rotate_left; focus ((try simp) <;> omega)) | ((with_reducible refine Below.trans ?_ (Below.mono (by assumption) ?_)); rotate_left; focus ((try simp) <;> omega))))).mono ?_; rintro e w5 ⟨rfl, hb5⟩; have hz5 := hb5.size; (try simp at hz5); obtain ⟨hd5, he5⟩ := blk_at hb5 wr.heap.size (by (try simp) <;> omega); obtain ⟨hc5, hf5⟩ := blk_at hb5 g (by (try simp) <;> omega)))
          go_roundw
          case rel => exact ⟨k + 1, f, hkl, by go_num, rfl, by omega, hf2.out, hl2.out, (by repeat (first | (with_reducible exact Below.refl _ _) | (with_reducible refine Below.drew ?_) | (with_reducible refine below_drewN ?_ _) | ((with_reducible refine Below.alloc ?_ ?_ _); rotate_left; focus ((try simp) <;> omega)) | ((with_reducible refine Below.setCell ?_ ?_ _); rotate_left; focus ((try simp) <;> omega)) | ((with_reducible refine Below.trans ?_ (Below.mono (by assumption) ?_)); rotate_left; focus ((try simp) <;> omega))))⟩
          case measure => simp [intOf]; omega
        · obtain ⟨m, hm0⟩ : ∃ m, x.l.length = m + 1 := ⟨x.l.length - 1, by omega⟩
          obtain ⟨s, hs⟩ := get_some (show m < x.l.length by omega)
          have hls2 := hls.trans (hlast.out x.l s m hxo hm0 hs)
          have hhr := Lib.hid (fun h => hhere.out ((hlast.out x.l s m hxo hm0 hs).trans h))
          obtain ⟨g3, o3, hA3, hg3, hq3⟩ := hlb (by omega)
          have q3 := (hbw0.out.cell (p := ⟨g3, o3 + m * 4 + 3, none⟩) hg3).trans (hq3 m s hs 3 (.int .i64 s.stamp.1) rfl)
          rw [hA3] at q1
          replace hA3 := Lib.hid hA3
          clear hq3 hlb hls
          have e0 : (0 : Int) < (x.l.length : Int) := by omega
          have em : (x.l.length : Int) - 1 = (m : Int) := by omega
          have mw : IntKind.i64.wrap (m : Int) = (m : Int) := IntWalk.i64_in _ (by have := hmil.out.samps x (List.mem_of_getElem? hx); omega)
          have m0 : (0 : Int) ≤ (m : Int) := by omega
          have m1 : (m : Int) < (x.l.length : Int) := by omega
          have hg3w : g3 < wr.heap.size := by omega
          have n3 : g3 ≠ wr.heap.size := by omega
          clear hpl1 hno hff hlt
          replace hH := Lib.hid hH
          replace hr := Lib.hid hr
          replace hx := Lib.hid hx
          replace hxn := Lib.hid hxn
          replace hxo := Lib.hid hxo
          replace hx0 := Lib.hid hx0
          replace hm0 := Lib.hid hm0
          replace hs := Lib.hid hs
          by_cases hlate : now.1 < s.stamp.1
          · have hE : Hid (addErr (l.map Hst.h) rs now.1 = 22) := Lib.hid (hE1.out (hhr.out (decide_eq_true hlate)))
            have hsame : Hid (addL (l.map Hst.h) rs code now = l.map Hst.h) := Lib.hid (add_same (by rw [hE.out]; decide))
            replace hls2 := Lib.hid hls2
            go_wp2_with (go_at_call 18; go_must (refine (hpl.out _ (by repeat (first | (with_reducible exact Below.refl _ _) | (with_reducible refine Below.drew ?_) | (with_reducible refine below_drewN ?_ _) | ((with_reducible refine Below.alloc ?_ ?_ _); rotate_left; focus ((try simp) <;> omega)) | ((with_reducible refine Below.setCell ?_ ?_ _); rotate_left; focus ((try simp) <;> omega)) | ((with_reducible refine Below.trans ?_ (Below.mono (by assumption) ?_)); rotate_left; focus ((try simp) <;> omega))))).mono ?_; rintro e w5 ⟨rfl, hb5⟩; have hz5 := hb5.size; (try simp at hz5); obtain ⟨hd5, he5⟩ := blk_at hb5 wr.heap.size (by (try simp) <;> omega); obtain ⟨hc5, hf5⟩ := blk_at hb5 g (by (try simp) <;> omega); obtain ⟨hc6, hf6⟩ := blk_at hb5 g3 (by (try simp) <;> omega)))
            exact bodyPost_ret (v := .tuple #[.slice A1 l1.length c1, .int .i64 22]) (by simp [results, Tryd.results8, go_sem]) rfl (by
              obtain ⟨_, _, e1, h1, _⟩ := ho1.out.row.form
              simp only [Value.slice.injEq] at e1
              obtain ⟨-, -, rfl⟩ := e1
              exact ⟨A1, _, l1, by rw [hE.out], (ho1.out.all (show Below w1.heap.size w1 w5 from (by repeat (first | (with_reducible exact Below.refl _ _) | (with_reducible refine Below.drew ?_) | (with_reducible refine below_drewN ?_ _) | ((with_reducible refine Below.alloc ?_ ?_ _); rotate_left; focus ((try simp) <;> omega)) | ((with_reducible refine Below.setCell ?_ ?_ _); rotate_left; focus ((try simp) <;> omega)) | ((with_reducible refine Below.trans ?_ (Below.mono (by assumption) ?_)); rotate_left; focus ((try simp) <;> omega)))))).reads, h1, by rw [hm1.out, hsame.out], (by repeat (first | (with_reducible exact Below.refl _ _) | (with_reducible refine Below.drew ?_) | (with_reducible refine below_drewN ?_ _) | ((with_reducible refine Below.alloc ?_ ?_ _); rotate_left; focus ((try simp) <;> omega)) | ((with_reducible refine Below.setCell ?_ ?_ _); rotate_left; focus ((try simp) <;> omega)) | ((with_reducible refine Below.trans ?_ (Below.mono (by assumption) ?_)); rotate_left; focus ((try simp) <;> omega))))⟩)
          · have hl2 : Hid ((rs.take (k + 1)).any (lateR (l.map Hst.h) now.1) = false) := Lib.hid (by rw [hls2]; exact decide_eq_false hlate)
            clear hls2
            go_wp2_with (go_at_call 18; go_must (refine (hpl.out _ (by repeat (first | (with_reducible exact Below.refl _ _) | (with_reducible refine Below.drew ?_) | (with_reducible refine below_drewN ?_ _) | ((with_reducible refine Below.alloc ?_ ?_ _); rotate_left; focus ((try simp) <;> omega)) | ((with_reducible refine Below.setCell ?_ ?_ _); rotate_left; focus ((try simp) <;> omega)) | ((with_reducible refine Below.trans ?_ (Below.mono (by assumption) ?_)); rotate_left; focus ((try simp) <;> omega))))).mono ?_; rintro e w5 ⟨rfl, hb5⟩; have hz5 := hb5.size; (try simp at hz5); obtain ⟨hd5, he5⟩ := blk_at hb5 wr.heap.size (by (try simp) <;> omega); obtain ⟨hc5, hf5⟩ := blk_at hb5 g (by (try simp) <;> omega); obtain ⟨hc6, hf6⟩ := blk_at hb5 g3 (by (try simp) <;> omega)))
            go_roundw
            case rel => exact ⟨k + 1, f, hkl, by go_num, rfl, by omega, hf2.out, hl2.out, (by repeat (first | (with_reducible exact Below.refl _ _) | (with_reducible refine Below.drew ?_) | (with_reducible refine below_drewN ?_ _) | ((with_reducible refine Below.alloc ?_ ?_ _); rotate_left; focus ((try simp) <;> omega)) | ((with_reducible refine Below.setCell ?_ ?_ _); rotate_left; focus ((try simp) <;> omega)) | ((with_reducible refine Below.trans ?_ (Below.mono (by assumption) ?_)); rotate_left; focus ((try simp) <;> omega))))⟩
            case measure => simp [intOf]; omega
    · have i1 : ¬ (k : Int) < (rs.length : Int) := by omega
      obtain rfl : k = rs.length := by omega
      rw [List.take_length] at hff hlt
      have hlB : lateB (l.map Hst.h) rs now.1 = false := hlt
      by_cases h5 : 4096 < l.length + f
      · have hE : Hid (addErr (l.map Hst.h) rs now.1 = 15) := Lib.hid (hE2.out hlB (by rw [List.length_map, ← hff]; exact h5))
        have hsame : Hid (addL (l.map Hst.h) rs code now = l.map Hst.h) := Lib.hid (add_same (by rw [hE.out]; decide))
        have h5z : (4096 : Int) < (l.length : Int) + (f : Int) := by omega
        clear hff hlt hlB h5
        go_wp2_with fail
        exact bodyPost_ret (v := .tuple #[.slice A1 l1.length c1, .int .i64 15]) (by simp [results, Tryd.results8, go_sem]) rfl (by
          obtain ⟨_, _, e1, h1, _⟩ := ho1.out.row.form
          simp only [Value.slice.injEq] at e1
          obtain ⟨-, -, rfl⟩ := e1
          exact ⟨A1, _, l1, by rw [hE.out], (ho1.out.all (show Below w1.heap.size w1 wr from (by repeat (first | (with_reducible exact Below.refl _ _) | (with_reducible refine Below.drew ?_) | (with_reducible refine below_drewN ?_ _) | ((with_reducible refine Below.alloc ?_ ?_ _); rotate_left; focus ((try simp) <;> omega)) | ((with_reducible refine Below.setCell ?_ ?_ _); rotate_left; focus ((try simp) <;> omega)) | ((with_reducible refine Below.trans ?_ (Below.mono (by assumption) ?_)); rotate_left; focus ((try simp) <;> omega)))))).reads, h1, by rw [hm1.out, hsame.out], (by repeat (first | (with_reducible exact Below.refl _ _) | (with_reducible refine Below.drew ?_) | (with_reducible refine below_drewN ?_ _) | ((with_reducible refine Below.alloc ?_ ?_ _); rotate_left; focus ((try simp) <;> omega)) | ((with_reducible refine Below.setCell ?_ ?_ _); rotate_left; focus ((try simp) <;> omega)) | ((with_reducible refine Below.trans ?_ (Below.mono (by assumption) ?_)); rotate_left; focus ((try simp) <;> omega))))⟩)
      have hE : Hid (addErr (l.map Hst.h) rs now.1 = 0) := Lib.hid (hE3.out hlB (by rw [List.length_map, ← hff]; exact h5))
      have hdone : Hid (addL (l.map Hst.h) rs code now = addAll (l.map Hst.h) rs code now) := Lib.hid (add_done hE.out)
      have h5z : ¬ (4096 : Int) < (l.length : Int) + (f : Int) := by omega
      clear hff hlt hlB h5 hfk
      obtain ⟨sinf, si0, sz0, sz1, sz2⟩ := info_parts samp_info
      go_wp2_with fail
      obtain ⟨wq, hwq⟩ : ∃ wq, wq = wr := ⟨wr, rfl⟩
      subst hwq
      go_loopw [10, 88] (fun vo vi wr => ∃ (k : Nat) (cur : List Hst) (A2 : Option Addr) (c2 : Nat), k ≤ rs.length ∧ vi = .int .i64 (k : Int) ∧ vo = .slice A2 cur.length c2 ∧ MidA wr w.heap.size (.slice A2 cur.length c2) cur (l.map Hst.h) rs code now k ∧ Below w.heap.size w wr) (fun _ vi _ => rs.length - (intOf vi).toNat)
      case atStart =>
        exact ⟨0, l1, A1, c1, Nat.zero_le _, rfl, rfl, ⟨ho1.out.all (show Below w1.heap.size w1 wq from (by repeat (first | (with_reducible exact Below.refl _ _) | (with_reducible refine Below.drew ?_) | (with_reducible refine below_drewN ?_ _) | ((with_reducible refine Below.alloc ?_ ?_ _); rotate_left; focus ((try simp) <;> omega)) | ((with_reducible refine Below.setCell ?_ ?_ _); rotate_left; focus ((try simp) <;> omega)) | ((with_reducible refine Below.trans ?_ (Below.mono (by assumption) ?_)); rotate_left; focus ((try simp) <;> omega))))), hm1.out, fun x hx _ => hf1.out x hx, map_small hm1.out hmil.out⟩, hbw0.out⟩
      case round =>
        clear hbw hbw0
        obtain ⟨k, cur, A2, c2, hk, rfl, rfl, hmid, hbw⟩ := hrel
        have hz := hbw.size
        have hbw0 := Lib.hid hbw
        have hcl := hmid.len hE.out
        by_cases hkl : k < rs.length
        · obtain ⟨r, hr⟩ := get_some hkl
          obtain ⟨gr, orr, hAr, hgr, hq⟩ := hrw.out (by omega)
          have q := fun j u hu => (hbw0.out.cell (p := ⟨gr, orr + k * 3 + j, none⟩) hgr).trans (hq k r hr j u hu)
          have b0 := q 0 (.string r.name.1) rfl
          rw [Nat.add_zero] at b0
          have b1 := q 1 (.int .i64 r.status.1) rfl
          have b2 := q 2 (.int .i64 r.time.1) rfl
          clear q hq
          subst hAr
          have i0 : (0 : Int) ≤ (k : Int) := by omega
          have i1 : (k : Int) < (rs.length : Int) := by omega
          have hgrr : gr < wr.heap.size := by omega
          have ngr : gr ≠ wr.heap.size := by omega
          have hold := name_once hrep.out.nodup hr
          have hpl1 : ∀ W, Below wr.heap.size wr W → Calls Tryd.prog 18 #[.slice A2 cur.length c2, .string r.name.1] W fun e w' => e = .returned (.tuple #[.int .i64 (atN r.name (cur.map Hst.h) : Int), .bool (hasN r.name (cur.map Hst.h))]) ∧ Below W.heap.size W w' := fun W hb => place_any A2 c2 cur r.name W ((hmid.own.reads.row.below hb (Nat.le_refl _)).more hb.size) (by omega)
          obtain ⟨i, hi⟩ : ∃ i, atN r.name (cur.map Hst.h) = i := ⟨_, rfl⟩
          rcases hH : hasN r.name (cur.map Hst.h) with _ | _
          · have hil : i ≤ cur.length := by
              have h := (atN_spec (l := cur.map Hst.h) (by rw [hmid.same]; exact all_asc hv.out.asc) r.name).1
              rw [hi, List.length_map] at h
              exact h
            have hsi := Lib.hid (fun (x0 y : Hst) (hy : y.h = ⟨r.name, cutS ([] ++ [sampR r code now])⟩) => set_ins (x0 := x0) hi hH hil hy)
            rw [hi, hH] at hpl1
            have hpl := Lib.hid hpl1
            have hvl := Lib.hid fun q hq => (hmid.own.row.lt q hq).2
            have hO := Lib.hid hmid.own
            have hmh := Lib.hid hmid
            clear hpl1 hmid
            replace hi := Lib.hid hi
            replace hH := Lib.hid hH
            replace hr := Lib.hid hr
            replace hold := Lib.hid hold
            go_wp2_with (first
              | (go_at_call 18; go_must (refine (hpl.out _ (by repeat (first | (with_reducible exact Below.refl _ _) | (with_reducible refine Below.drew ?_) | (with_reducible refine below_drewN ?_ _) | ((with_reducible refine Below.alloc ?_ ?_ _); rotate_left; focus ((try simp) <;> omega)) | ((with_reducible refine Below.setCell ?_ ?_ _); rotate_left; focus ((try simp) <;> omega)) | ((with_reducible refine Below.trans ?_ (Below.mono (by assumption) ?_)); rotate_left; focus ((try simp) <;> omega))))).mono ?_; rintro e w5 ⟨rfl, hb5⟩; have hz5 := hb5.size; (try simp at hz5); obtain ⟨hd5, he5⟩ := blk_at hb5 wr.heap.size (by (try simp) <;> omega); skip))
              | (go_at_call 19; go_must (refine (hins_any (.slice A2 cur.length c2) i cur w.heap.size _ (hO.out.all (show Below wr.heap.size wr _ from (by repeat (first | (with_reducible exact Below.refl _ _) | (with_reducible refine Below.drew ?_) | (with_reducible refine below_drewN ?_ _) | ((with_reducible refine Below.alloc ?_ ?_ _); rotate_left; focus ((try simp) <;> omega)) | ((with_reducible refine Below.setCell ?_ ?_ _); rotate_left; focus ((try simp) <;> omega)) | ((with_reducible refine Below.trans ?_ (Below.mono (by assumption) ?_)); rotate_left; focus ((try simp) <;> omega)))))).row hil ⟨r.name, none, 0, []⟩ _ (heap_alloc_new _ _) (fun e => by have h2 := hvl.out _ e; (try simp at h2); omega) (by (try simp) <;> omega) (by omega)).mono ?_; rintro e w7 ⟨v7, rfl, hown7, hbl7, hgr7⟩; have ho7 := OwnH.grown (hO.out.all (show Below wr.heap.size wr _ from (by repeat (first | (with_reducible exact Below.refl _ _) | (with_reducible refine Below.drew ?_) | (with_reducible refine below_drewN ?_ _) | ((with_reducible refine Below.alloc ?_ ?_ _); rotate_left; focus ((try simp) <;> omega)) | ((with_reducible refine Below.setCell ?_ ?_ _); rotate_left; focus ((try simp) <;> omega)) | ((with_reducible refine Below.trans ?_ (Below.mono (by assumption) ?_)); rotate_left; focus ((try simp) <;> omega)))))) hown7 hgr7 (fun z hz => (by rcases mem_ins hz with h | h; (exact .inl h); (exact .inr (by rw [h]; exact lab_new r.name)))); obtain ⟨l7, hl7⟩ : ∃ l7, l7 = cur.take i ++ (⟨r.name, none, 0, []⟩ : Hst) :: cur.drop i := ⟨_, rfl⟩; rw [← hl7] at ho7; clear hown7; have hx7 := Lib.hid (show l7[i]? = some (⟨r.name, none, 0, []⟩ : Hst) from by rw [hl7]; exact ins_at hil); obtain ⟨g, cap, hv7, hHg, hgl⟩ := World.ownsRow.form ho7.row (List.length_pos_of_mem (List.mem_of_getElem? hx7.out)); subst hv7; replace hl7 := Lib.hid hl7; have hz7 := hgr7.size; (try simp at hz7); obtain ⟨hd7, he7⟩ := grown_blk hgr7 wr.heap.size (by (try simp) <;> omega) (fun e => by have h2 := hvl.out _ e.symm; omega))))
            have d1 : w7.cell? ⟨wr.heap.size, 1, none⟩ = some (.int .i64 r.status.1) := (hd7 _).trans ((World.cell?_alloc_lt _ _ _ (by show wr.heap.size < w5.heap.size; omega)).trans ((hd5 _).trans (by go_simp)))
            have d2 : w7.cell? ⟨wr.heap.size, 2, none⟩ = some (.int .i64 r.time.1) := (hd7 _).trans ((World.cell?_alloc_lt _ _ _ (by show wr.heap.size < w5.heap.size; omega)).trans ((hd5 _).trans (by go_simp)))
            obtain ⟨x, hx0⟩ : ∃ x : Hst, x = ⟨r.name, none, 0, []⟩ := ⟨_, rfl⟩
            have hx : l7[i]? = some x := by rw [hx0]; exact hx7.out
            have hxn := Lib.hid (show x.name = r.name by rw [hx0])
            have hfull : x.lC = x.l.length := by rw [hx0]; rfl
            have hxs : x.l.length ≤ 1000000 := by rw [hx0]; exact Nat.zero_le _
            have hset : Hid (∀ y : Hst, y.h = ⟨r.name, cutS (x.l ++ [sampR r code now])⟩ → (l7.set i y).map Hst.h = withL (cur.map Hst.h) r.name (sampR r code now)) := Lib.hid fun y hy => by
              rw [hl7.out]
              rw [hx0] at hy
              exact hsi.out _ y hy
            have hcu : Hid (∀ z ∈ l7, z ∈ cur ∨ z = x) := Lib.hid fun z hz => by
              rw [hl7.out] at hz
              rw [hx0]
              exact mem_ins hz
            have hOX := Lib.hid ho7
            replace hx0 := Lib.hid hx0
            clear hd5 he5 hd7 he7 ho7
            have hlx : i < (l7).length := (List.getElem?_eq_some_iff.1 hx).1
            have hq := hOX.out.row.reads hstE_len
            have q1 : (w7).cell? ⟨g, i * 2 + 1, none⟩ = some (.slice x.lA x.l.length x.l.length) := by
              obtain ⟨g', o', e', _, q⟩ := hq (by omega)
              simp only [Option.some.injEq, Addr.mk.injEq] at e'
              obtain ⟨rfl, rfl, _⟩ := e'
              have := q i x hx 1 _ rfl
              rw [hfull] at this
              rwa [Nat.zero_add] at this
            clear hq
            have hfz : ∀ j, (w7).frozen? ⟨g, j, none⟩ = false := fun j => World.ownsRow.frozenAt hOX.out.row j
            have hrx := Lib.hid (hOX.out.labs x (List.mem_of_getElem? hx)).1.2.2
            have hAx : Hid (x.lA = none → x.l.length = 0) := Lib.hid fun e => by
              have h := hrx.out
              rw [e] at h
              rw [rw_none h]
              rfl
            have j0 : (0 : Int) ≤ (i : Int) := by omega
            have j1 : (i : Int) < ((l7).length : Int) := by omega
            have hgW : g < (w7).heap.size := by omega
            have ngW : g ≠ (w7).heap.size := by omega
            replace hfull := Lib.hid hfull
            replace hx := Lib.hid hx
            go_region_held3 (fun w' => w'.cell? ⟨g, i * 2 + 1, none⟩ = some (.slice x.lA x.l.length x.l.length) ∧ w'.cell? ⟨wr.heap.size, 1, none⟩ = some (.int .i64 r.status.1) ∧ w'.cell? ⟨wr.heap.size, 2, none⟩ = some (.int .i64 r.time.1)) (first | (go_keep; done) | (go_simp; done) | go_keep)
              (first
              | (refine step_append_full rfl (.tmp 112) (.tmp 120) _ rfl sampE_len sampE_one 42 sinf _ 32 Tryd.underlying22 si0 sz0 sz1 sz2 rfl (by omega) _ x.lA x.l.length x.l rfl rfl (hrx.out.alloc (Nat.le_refl _) _) hAx.out _ _ 1 1 [sampR r code now] rfl (by omega) rfl (rw_samp rfl (Nat.lt_succ_self _)) (by simp [maxLen]; omega) (by omega) ?_
                 intro v9 w9 hown9 hg9
                 obtain ⟨g9, cc9, hv9, hbg9, hlg9⟩ := World.ownsRow.form hown9 (by rw [List.length_append, List.length_singleton]; omega)
                 subst hv9
                 have hz9 := hg9.size
                 (try simp at hz9)
                 obtain ⟨c9, f9⟩ := grown_blk hg9 g (by (try simp) <;> omega) nofun
                 obtain ⟨d9, e9⟩ := grown_blk hg9 wr.heap.size (by (try simp) <;> omega) nofun))
            all_goals go_wp2_with fail
            have hb9 : Below (w7).heap.size w7 w9 := by
              refine Below.grown ?_ hg9 ?_ (fun _ h => by cases h)
              · exact (by repeat (first | (with_reducible exact Below.refl _ _) | (with_reducible refine Below.drew ?_) | (with_reducible refine below_drewN ?_ _) | ((with_reducible refine Below.alloc ?_ ?_ _); rotate_left; focus ((try simp) <;> omega)) | ((with_reducible refine Below.setCell ?_ ?_ _); rotate_left; focus ((try simp) <;> omega)) | ((with_reducible refine Below.trans ?_ (Below.mono (by assumption) ?_)); rotate_left; focus ((try simp) <;> omega))))
              · (try simp) <;> omega
            go_roundw
            case rel =>
              obtain ⟨a, ha⟩ : ∃ a, (max 0 ((x.l.length : Int) + 1 - 32)).toNat = a := ⟨_, rfl⟩
              have hown9' : Own sampE 4 42 w9 ((w7).alloc (.cells #[.int .u64 code.1, .int .i64 r.status.1, .int .i64 r.time.1, .int .i64 now.1] 42)).heap.size (.slice (some ⟨g9, 0, none⟩) (x.l ++ [sampR r code now]).length cc9) (x.l ++ [sampR r code now]) := hown9
              obtain ⟨_, hc9, _, _⟩ := own_form hown9'
              have hl9 : (x.l ++ [sampR r code now]).length = x.l.length + 1 := by rw [List.length_append, List.length_singleton]
              have ha2 : a = (x.l ++ [sampR r code now]).length - 32 := by omega
              have hcl2 : (cutS (x.l ++ [sampR r code now])).length = x.l.length + 1 - a := by unfold cutS; rw [List.length_drop]; omega
              rw [ha, if_neg (show ¬ cc9 = a by omega), ← hcl2]
              have hcl3 := cut_len (x.l ++ [sampR r code now])
              have hnx := MidA.next (y := ⟨r.name, some ⟨g9, a * 4, none⟩, cc9 - a, cutS (x.l ++ [sampR r code now])⟩) hmh.out hr.out (hOX.out.all hb9) rfl hx.out (own_cutS hown9' ha2 r.name) hxn.out rfl (by show (cutS (x.l ++ [sampR r code now])).length ≤ 1000000; omega) hxs hcu.out (hset.out _ rfl)
              exact ⟨k + 1, (l7).set i ⟨r.name, some ⟨g9, a * 4, none⟩, cc9 - a, cutS (x.l ++ [sampR r code now])⟩, some ⟨g, 0, none⟩, cap, hkl, by go_num, by rw [List.length_set], by rw [List.length_set]; exact hnx, (by repeat (first | (with_reducible exact Below.refl _ _) | (with_reducible refine Below.drew ?_) | (with_reducible refine below_drewN ?_ _) | ((with_reducible refine Below.alloc ?_ ?_ _); rotate_left; focus ((try simp) <;> omega)) | ((with_reducible refine Below.setCell ?_ ?_ _); rotate_left; focus ((try simp) <;> omega)) | ((with_reducible refine Below.trans ?_ (Below.mono (by assumption) ?_)); rotate_left; focus ((try simp) <;> omega))))⟩
            case measure => simp [intOf]; omega
          · obtain ⟨x, hx, hxn, hxo⟩ := at_hst hH
            rw [hi] at hx hpl1
            rw [hH] at hpl1
            have hpl := Lib.hid hpl1
            have hxm := List.mem_of_getElem? hx
            have hfull := hmid.full x hxm (by rw [hxn]; exact hold)
            have hxs := hmid.small x hxm
            have hset : ∀ y : Hst, y.h = ⟨r.name, cutS (x.l ++ [sampR r code now])⟩ → (cur.set i y).map Hst.h = withL (cur.map Hst.h) r.name (sampR r code now) := fun y hy => by
              unfold withL
              rw [if_pos hH, hi, List.map_set, hy, hxo]
            have hil := (List.getElem?_eq_some_iff.1 hx).1
            obtain ⟨g, cap, hv6, hHg, hgl⟩ := World.ownsRow.form hmid.own.row (by omega)
            simp only [Value.slice.injEq] at hv6
            obtain ⟨rfl, -, rfl⟩ := hv6
            have hcu : ∀ z ∈ cur, z ∈ cur ∨ z = x := fun z hz => .inl hz
            have hngw : g ≠ wr.heap.size := by omega
            have hO := Lib.hid hmid.own
            have hmh := Lib.hid hmid
            clear hpl1 hmid
            replace hi := Lib.hid hi
            replace hH := Lib.hid hH
            replace hr := Lib.hid hr
            replace hold := Lib.hid hold
            replace hxo := Lib.hid hxo
            replace hxn := Lib.hid hxn
            replace hcu := Lib.hid hcu
            replace hset := Lib.hid hset
            go_wp2_with (go_at_call 18; go_must (refine (hpl.out _ (by repeat (first | (with_reducible exact Below.refl _ _) | (with_reducible refine Below.drew ?_) | (with_reducible refine below_drewN ?_ _) | ((with_reducible refine Below.alloc ?_ ?_ _); rotate_left; focus ((try simp) <;> omega)) | ((with_reducible refine Below.setCell ?_ ?_ _); rotate_left; focus ((try simp) <;> omega)) | ((with_reducible refine Below.trans ?_ (Below.mono (by assumption) ?_)); rotate_left; focus ((try simp) <;> omega))))).mono ?_; rintro e w5 ⟨rfl, hb5⟩; have hz5 := hb5.size; (try simp at hz5); obtain ⟨hd5, he5⟩ := blk_at hb5 wr.heap.size (by (try simp) <;> omega); obtain ⟨hc5, hf5⟩ := blk_at hb5 g (by (try simp) <;> omega)))
            have hOX := Lib.hid (hO.out.all (show Below wr.heap.size wr w5 from (by repeat (first | (with_reducible exact Below.refl _ _) | (with_reducible refine Below.drew ?_) | (with_reducible refine below_drewN ?_ _) | ((with_reducible refine Below.alloc ?_ ?_ _); rotate_left; focus ((try simp) <;> omega)) | ((with_reducible refine Below.setCell ?_ ?_ _); rotate_left; focus ((try simp) <;> omega)) | ((with_reducible refine Below.trans ?_ (Below.mono (by assumption) ?_)); rotate_left; focus ((try simp) <;> omega))))))
            have d1 : w5.cell? ⟨wr.heap.size, 1, none⟩ = some (.int .i64 r.status.1) := (hd5 _).trans (by go_simp)
            have d2 : w5.cell? ⟨wr.heap.size, 2, none⟩ = some (.int .i64 r.time.1) := (hd5 _).trans (by go_simp)
            clear hd5 he5 hc5 hf5
            have hlx : i < (cur).length := (List.getElem?_eq_some_iff.1 hx).1
            have hq := hOX.out.row.reads hstE_len
            have q1 : (w5).cell? ⟨g, i * 2 + 1, none⟩ = some (.slice x.lA x.l.length x.l.length) := by
              obtain ⟨g', o', e', _, q⟩ := hq (by omega)
              simp only [Option.some.injEq, Addr.mk.injEq] at e'
              obtain ⟨rfl, rfl, _⟩ := e'
              have := q i x hx 1 _ rfl
              rw [hfull] at this
              rwa [Nat.zero_add] at this
            clear hq
            have hfz : ∀ j, (w5).frozen? ⟨g, j, none⟩ = false := fun j => World.ownsRow.frozenAt hOX.out.row j
            have hrx := Lib.hid (hOX.out.labs x (List.mem_of_getElem? hx)).1.2.2
            have hAx : Hid (x.lA = none → x.l.length = 0) := Lib.hid fun e => by
              have h := hrx.out
              rw [e] at h
              rw [rw_none h]
              rfl
            have j0 : (0 : Int) ≤ (i : Int) := by omega
            have j1 : (i : Int) < ((cur).length : Int) := by omega
            have hgW : g < (w5).heap.size := by omega
            have ngW : g ≠ (w5).heap.size := by omega
            replace hfull := Lib.hid hfull
            replace hx := Lib.hid hx
            go_region_held3 (fun w' => w'.cell? ⟨g, i * 2 + 1, none⟩ = some (.slice x.lA x.l.length x.l.length) ∧ w'.cell? ⟨wr.heap.size, 1, none⟩ = some (.int .i64 r.status.1) ∧ w'.cell? ⟨wr.heap.size, 2, none⟩ = some (.int .i64 r.time.1)) (first | (go_keep; done) | (go_simp; done) | go_keep)
              (first
              | (refine step_append_full rfl (.tmp 112) (.tmp 120) _ rfl sampE_len sampE_one 42 sinf _ 32 Tryd.underlying22 si0 sz0 sz1 sz2 rfl (by omega) _ x.lA x.l.length x.l rfl rfl (hrx.out.alloc (Nat.le_refl _) _) hAx.out _ _ 1 1 [sampR r code now] rfl (by omega) rfl (rw_samp rfl (Nat.lt_succ_self _)) (by simp [maxLen]; omega) (by omega) ?_
                 intro v9 w9 hown9 hg9
                 obtain ⟨g9, cc9, hv9, hbg9, hlg9⟩ := World.ownsRow.form hown9 (by rw [List.length_append, List.length_singleton]; omega)
                 subst hv9
                 have hz9 := hg9.size
                 (try simp at hz9)
                 obtain ⟨c9, f9⟩ := grown_blk hg9 g (by (try simp) <;> omega) nofun
                 obtain ⟨d9, e9⟩ := grown_blk hg9 wr.heap.size (by (try simp) <;> omega) nofun))
            all_goals go_wp2_with fail
            have hb9 : Below (w5).heap.size w5 w9 := by
              refine Below.grown ?_ hg9 ?_ (fun _ h => by cases h)
              · exact (by repeat (first | (with_reducible exact Below.refl _ _) | (with_reducible refine Below.drew ?_) | (with_reducible refine below_drewN ?_ _) | ((with_reducible refine Below.alloc ?_ ?_ _); rotate_left; focus ((try simp) <;> omega)) | ((with_reducible refine Below.setCell ?_ ?_ _); rotate_left; focus ((try simp) <;> omega)) | ((with_reducible refine Below.trans ?_ (Below.mono (by assumption) ?_)); rotate_left; focus ((try simp) <;> omega))))
              · (try simp) <;> omega
            go_roundw
            case rel =>
              obtain ⟨a, ha⟩ : ∃ a, (max 0 ((x.l.length : Int) + 1 - 32)).toNat = a := ⟨_, rfl⟩
              have hown9' : Own sampE 4 42 w9 ((w5).alloc (.cells #[.int .u64 code.1, .int .i64 r.status.1, .int .i64 r.time.1, .int .i64 now.1] 42)).heap.size (.slice (some ⟨g9, 0, none⟩) (x.l ++ [sampR r code now]).length cc9) (x.l ++ [sampR r code now]) := hown9
              obtain ⟨_, hc9, _, _⟩ := own_form hown9'
              have hl9 : (x.l ++ [sampR r code now]).length = x.l.length + 1 := by rw [List.length_append, List.length_singleton]
              have ha2 : a = (x.l ++ [sampR r code now]).length - 32 := by omega
              have hcl2 : (cutS (x.l ++ [sampR r code now])).length = x.l.length + 1 - a := by unfold cutS; rw [List.length_drop]; omega
              rw [ha, if_neg (show ¬ cc9 = a by omega), ← hcl2]
              have hcl3 := cut_len (x.l ++ [sampR r code now])
              have hnx := MidA.next (y := ⟨r.name, some ⟨g9, a * 4, none⟩, cc9 - a, cutS (x.l ++ [sampR r code now])⟩) hmh.out hr.out (hOX.out.all hb9) rfl hx.out (own_cutS hown9' ha2 r.name) hxn.out rfl (by show (cutS (x.l ++ [sampR r code now])).length ≤ 1000000; omega) hxs hcu.out (hset.out _ rfl)
              exact ⟨k + 1, (cur).set i ⟨r.name, some ⟨g9, a * 4, none⟩, cc9 - a, cutS (x.l ++ [sampR r code now])⟩, some ⟨g, 0, none⟩, c2, hkl, by go_num, by rw [List.length_set], by rw [List.length_set]; exact hnx, (by repeat (first | (with_reducible exact Below.refl _ _) | (with_reducible refine Below.drew ?_) | (with_reducible refine below_drewN ?_ _) | ((with_reducible refine Below.alloc ?_ ?_ _); rotate_left; focus ((try simp) <;> omega)) | ((with_reducible refine Below.setCell ?_ ?_ _); rotate_left; focus ((try simp) <;> omega)) | ((with_reducible refine Below.trans ?_ (Below.mono (by assumption) ?_)); rotate_left; focus ((try simp) <;> omega))))⟩
            case measure => simp [intOf]; omega
        · have i1 : ¬ (k : Int) < (rs.length : Int) := by omega
          obtain rfl : k = rs.length := by omega
          have hsm := hmid.same
          rw [List.take_length] at hsm
          have hO := Lib.hid hmid.own
          replace hmid := Lib.hid hmid
          replace hsm := Lib.hid hsm
          go_wp2_with fail
          exact bodyPost_ret (v := .tuple #[.slice A2 cur.length c2, .int .i64 0]) (by simp [results, Tryd.results8, go_sem]) rfl (by
            obtain ⟨_, _, e1, h1, _⟩ := hO.out.row.form
            simp only [Value.slice.injEq] at e1
            obtain ⟨-, -, rfl⟩ := e1
            exact ⟨A2, _, cur, by rw [hE.out], hO.out.reads, h1, by rw [hdone.out]; exact hsm.out, hbw⟩)
end Go.Proofs.YtddepmelnemniaaDoor
