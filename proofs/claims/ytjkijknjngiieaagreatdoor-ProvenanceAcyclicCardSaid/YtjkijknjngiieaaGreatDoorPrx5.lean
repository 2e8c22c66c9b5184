/-
  The walks of provenance: what is reached, by the reference.
-/
import Derived.Test.YtjkijknjngiieaaGreatDoorPrx4


namespace Go.Proofs.YtjkijknjngiieaaGreatDoor
open Go.RowKit

theorem own_cell1 {α : Type} {enc : α → List Value} {e : TypeId} {w : World} {H g cap n k : Nat} {l : List α} {x : α} {u : Value} (hk : ∀ x : α, (enc x).length = 1) (h : Own enc 1 e w H (.slice (some ⟨g, 0, none⟩) n cap) l) (hx : l[k]? = some x) (hu : enc x = [u]) : w.cell? ⟨g, k, none⟩ = some u := by
  have hl := (List.getElem?_eq_some_iff.1 hx).1
  obtain ⟨gg, o, e1, hg, hc⟩ := (Own.reads hk h) (by omega)
  simp only [Option.some.injEq, Addr.mk.injEq, and_true] at e1
  obtain ⟨rfl, rfl⟩ := e1
  have := hc k x hx 0 u (by rw [hu]; rfl)
  simpa using this
theorem own_frz1 {α : Type} {enc : α → List Value} {e : TypeId} {w : World} {H g cap n k j : Nat} {l : List α} (h : Own enc j e w H (.slice (some ⟨g, 0, none⟩) n cap) l) : w.frozen? ⟨g, k, none⟩ = false := by
  obtain ⟨_, _, _, cur, hg, _⟩ := own_block h
  simp [World.frozen?, hg]
/-- Unmarked places, as the memory tells. -/
def unW (n g : Nat) (w : World) : Nat := (List.range n).countP (fun k => match w.cell? ⟨g, k, none⟩ with | some (.bool b) => !b | _ => false)
theorem unW_of {w : World} {H g : Nat} {m : List Bool} (h : Own bE 1 4 w H (.slice (some ⟨g, 0, none⟩) m.length m.length) m) : unW m.length g w = muM m := by
  unfold unW
  rw [muM_range]
  apply List.countP_congr
  intro k hk
  rw [List.mem_range] at hk
  obtain ⟨b, hb⟩ := get_some hk
  rw [own_cell1 bE_len h hb rfl, hb]
def moreV : Value → Nat
  | .bool true => 1
  | _ => 0
/-- A pass over the links: what is known of it before the p-th input of the k-th link. -/
structure Pass (ls : List Lnk) (run : Str) (m0 m : List Bool) (mo : Bool) (k : Nat) : Prop where
  stay : mo = false → m = m0 ∧ ∀ j, j < k → m[j]? = some true → Clo ls run m j
  less : mo = true → muM m < muM m0
  le : muM m ≤ muM m0
theorem Pass.start {ls : List Lnk} {run : Str} (m : List Bool) : Pass ls run m m false 0 := ⟨fun _ => ⟨rfl, fun j hj => by omega⟩, fun h => (by cases h), Nat.le_refl _⟩
theorem Pass.next {ls : List Lnk} {run : Str} {m0 m : List Bool} {mo : Bool} {k : Nat} (h : Pass ls run m0 m mo k) (hc : mo = false → m[k]? = some true → Clo ls run m k) : Pass ls run m0 m mo (k + 1) :=
  ⟨fun e => ⟨(h.stay e).1, fun j hj hm => by
    by_cases hjk : j = k
    · subst hjk; exact hc e hm
    · exact (h.stay e).2 j (by omega) hm⟩, h.less, h.le⟩
theorem Pass.mark {ls : List Lnk} {run : Str} {m0 m : List Bool} {mo : Bool} {k i : Nat} (h : Pass ls run m0 m mo k) (hi : m[i]? = some false) : Pass ls run m0 (m.set i true) true k :=
  ⟨fun e => (by cases e), fun _ => (by have := muM_set hi; have := h.le; omega), by have := muM_set hi; have := h.le; omega⟩
set_option maxRecDepth 100000 in
set_option maxHeartbeats 8000000 in
theorem rreached_any (A : Option Addr) (c : Nat) (l : List Lkr) (run nm : Str) (w : World) (hr : RwL w w.heap.size A l) (hm : MildL l) :
    Calls Tryz.prog 45 #[.slice A l.length c, .string run.1, .string nm.1] w fun e w' => ∃ (g : Nat) (m : List Bool), e = .returned (.slice (some ⟨g, 0, none⟩) l.length l.length) ∧ Own bE 1 4 w' w.heap.size (.slice (some ⟨g, 0, none⟩) l.length l.length) m ∧ Marks (l.map Lkr.h) run nm m ∧ Below w.heap.size w w' := by
  obtain ⟨inf, hi0, iz0, iz1, iz2⟩ := info_parts bool_info
  have hidn : Hid (∀ (s : Str) W, Below w.heap.size w W → Calls Tryz.prog 38 #[.slice A l.length c, .string run.1, .string s.1] W fun e w' => e = .returned (.int .i64 (idxI (l.map Lkr.h) run s)) ∧ Below W.heap.size W w') := Lib.hid fun s W hb => rindex_any A c l run s W ((hr.row.below hb (Nat.le_refl _)).more hb.size) hm.len (fun y hy => (hm.each y hy).nm)
  have hrow := Lib.hid hr.row
  have hlab := Lib.hid hr.labs
  have hmil := Lib.hid hm.each
  have hlen := hm.len
  clear hr hm
  have hid0 := fun W hb => hidn.out nm W hb
  obtain ⟨I, hI⟩ : ∃ I, idxI (l.map Lkr.h) run nm = I := ⟨_, rfl⟩
  rw [hI] at hid0
  rcases hh : hasL (l.map Lkr.h) run nm with _ | _
  · rw [idxI_no hh] at hI
    subst hI
    have hid := Lib.hid hid0
    have hmk : Hid (Marks (l.map Lkr.h) run nm (List.replicate l.length false)) := Lib.hid (by have h := marks_none hh; rwa [List.length_map] at h)
    clear hid0
    replace hh := Lib.hid hh
    go_enter Tryz.func45, Tryz.ntmps45
    go_wp2_with (first
      | (at_make
         refine wpList_make_full _ rfl (.tmp 14) (.tmp 14) _ rfl w.heap.size 4 inf _ 1 Tryz.underlying87 hi0 iz0 iz1 _ _ _ _ l.length rfl rfl rfl rfl (by rw [iz2]; omega) (by simp [maxLen]; omega) (by (try simp) <;> omega) ?_
         intro w1 hown1 hg1
         have hz1 := hg1.size
         (try simp at hz1)
         have hb1 : Below w.heap.size w w1 := Below.grown (by repeat (first | (with_reducible exact Below.refl _ _) | (with_reducible refine Below.drew ?_) | (with_reducible refine below_drewN ?_ _) | ((with_reducible refine Below.alloc ?_ ?_ _); rotate_left; focus ((try simp) <;> omega)) | ((with_reducible refine Below.setCell ?_ ?_ _); rotate_left; focus ((try simp) <;> omega)) | ((with_reducible refine Below.trans ?_ (Below.mono (by assumption) ?_)); rotate_left; focus ((try simp) <;> omega)))) hg1 (by (try simp) <;> omega) nofun
         replace hown1 := Lib.hid (own_made_bool hown1))
      | (go_at_call 38; go_must (refine (hid.out _ hb1).mono ?_; rintro e w2 ⟨rfl, hb2⟩)))
    go_ret
    have ho := hown1.out.all hb2
    rw [List.length_replicate] at ho
    exact ⟨_, _, rfl, ho, hmk.out, (by repeat (first | (with_reducible exact Below.refl _ _) | (with_reducible refine Below.drew ?_) | (with_reducible refine below_drewN ?_ _) | ((with_reducible refine Below.alloc ?_ ?_ _); rotate_left; focus ((try simp) <;> omega)) | ((with_reducible refine Below.setCell ?_ ?_ _); rotate_left; focus ((try simp) <;> omega)) | ((with_reducible refine Below.trans ?_ (Below.mono (by assumption) ?_)); rotate_left; focus ((try simp) <;> omega))))⟩
  rw [idxI_yes hh] at hI
  have hlt := idx_lt hh
  rw [List.length_map] at hlt
  have hsn := Snd.start hh
  rw [List.length_map] at hsn
  obtain ⟨J, hJ⟩ : ∃ J, idxL (l.map Lkr.h) run nm = J := ⟨_, rfl⟩
  rw [hJ] at hI hlt hsn
  subst hI
  have hid := Lib.hid hid0
  have j0 : (0 : Int) ≤ (J : Int) := by omega
  have j1 : (J : Int) < (l.length : Int) := by omega
  clear hid0
  replace hh := Lib.hid hh
  replace hJ := Lib.hid hJ
  replace hsn := Lib.hid hsn
  go_enter Tryz.func45, Tryz.ntmps45
  go_wp2_with (first
    | (at_make
       refine wpList_make_full _ rfl (.tmp 14) (.tmp 14) _ rfl w.heap.size 4 inf _ 1 Tryz.underlying87 hi0 iz0 iz1 _ _ _ _ l.length rfl rfl rfl rfl (by rw [iz2]; omega) (by simp [maxLen]; omega) (by (try simp) <;> omega) ?_
       intro w1 hown1 hg1
       have hz1 := hg1.size
       (try simp at hz1)
       have hb1 : Below w.heap.size w w1 := Below.grown (by repeat (first | (with_reducible exact Below.refl _ _) | (with_reducible refine Below.drew ?_) | (with_reducible refine below_drewN ?_ _) | ((with_reducible refine Below.alloc ?_ ?_ _); rotate_left; focus ((try simp) <;> omega)) | ((with_reducible refine Below.setCell ?_ ?_ _); rotate_left; focus ((try simp) <;> omega)) | ((with_reducible refine Below.trans ?_ (Below.mono (by assumption) ?_)); rotate_left; focus ((try simp) <;> omega)))) hg1 (by (try simp) <;> omega) nofun
       have hlt1 := (own_made_bool hown1).lt _ rfl
       have hcJ := own_cell1 bE_len (own_made_bool hown1) (x := false) (k := J) (by rw [List.getElem?_replicate, if_pos hlt]) rfl
       have hfJ := own_frz1 (k := J) (own_made_bool hown1)
       replace hown1 := Lib.hid (own_made_bool hown1))
    | (go_at_call 38; go_must (refine (hid.out _ hb1).mono ?_; rintro e w2 ⟨rfl, hb2⟩; have hz2 := hb2.size; obtain ⟨hc2, hf2⟩ := blk_at hb2 w.heap.size (by omega))))
  have hb0 : Hid (Below w.heap.size w (w2.setCell ⟨w.heap.size, J, none⟩ (.bool true))) := Lib.hid (Below.setCell (show Below w.heap.size w w2 from (by repeat (first | (with_reducible exact Below.refl _ _) | (with_reducible refine Below.drew ?_) | (with_reducible refine below_drewN ?_ _) | ((with_reducible refine Below.alloc ?_ ?_ _); rotate_left; focus ((try simp) <;> omega)) | ((with_reducible refine Below.setCell ?_ ?_ _); rotate_left; focus ((try simp) <;> omega)) | ((with_reducible refine Below.trans ?_ (Below.mono (by assumption) ?_)); rotate_left; focus ((try simp) <;> omega))))) (Nat.le_refl _) _)
  have hO0 : Hid (Own bE 1 4 (w2.setCell ⟨w.heap.size, J, none⟩ (.bool true)) w.heap.size (.slice (some ⟨w.heap.size, 0, none⟩) ((List.replicate l.length false).set J true).length ((List.replicate l.length false).set J true).length) ((List.replicate l.length false).set J true)) := Lib.hid (by
    have h := own_set bE_len (hown1.out.all hb2) (x := true) (k := J) rfl (by rw [List.length_replicate]; exact hlt)
    rw [List.length_set]
    exact h)
  have hz0 : w.heap.size < w2.heap.size := by omega
  have hgen : Hid (∀ (k : Nat) (x : Lkr) (W : World), l[k]? = some x → Below w.heap.size w W → ∃ g o, A = some ⟨g, o, none⟩ ∧ g < w.heap.size ∧ W.cell? ⟨g, o + k * 8 + 4, none⟩ = some (.slice x.insA x.ins.length x.insC)) := Lib.hid (fun k x W hx hb => by
    have hkl := (List.getElem?_eq_some_iff.1 hx).1
    obtain ⟨g, o, e, hg, hq⟩ := hrow.out (by omega)
    exact ⟨g, o, e, hg, (hb.cell (p := ⟨g, o + k * 8 + 4, none⟩) hg).trans (hq k x hx 4 _ rfl)⟩)
  clear hc2 hf2 hb2 hz2 hcJ hfJ hlt1 hb1 hz1 hg1
  go_loopw [9] (fun vm wr => ∃ (mo : Bool) (m : List Bool), vm = .bool mo ∧ Own bE 1 4 wr w.heap.size (.slice (some ⟨w.heap.size, 0, none⟩) m.length m.length) m ∧ Snd (l.map Lkr.h) run nm m ∧ (mo = false → ∀ j, j < l.length → m[j]? = some true → Clo (l.map Lkr.h) run m j) ∧ w.heap.size < wr.heap.size ∧ Below w.heap.size w wr) (fun vm wr => 2 * unW l.length w.heap.size wr + moreV vm)
  case atStart => exact ⟨true, _, rfl, hO0.out, hsn.out, (fun h => by cases h), by (try simp) <;> omega, hb0.out⟩
  case round =>
    obtain ⟨mo, m0, rfl, hO, hS, hC, hzr, hbw⟩ := hrel
    clear hb0 hO0 hsn hown1
    have hml : m0.length = l.length := by have := hS.len; rwa [List.length_map] at this
    rcases mo with _ | _
    · have hmk := hS.marks (fun j hj hm => hC rfl j (by rwa [List.length_map] at hj) hm)
      rw [hml] at hO
      replace hO := Lib.hid hO
      replace hmk := Lib.hid hmk
      replace hS := Lib.hid hS
      replace hC := Lib.hid hC
      go_wp2_with fail
      go_ret
      exact ⟨_, rfl, m0, hO.out, hmk.out, hbw⟩
    · have hmu0 : Hid (unW l.length w.heap.size wr = muM m0) := Lib.hid (by rw [← hml]; exact unW_of hO)
      replace hO := Lib.hid hO
      replace hS := Lib.hid hS
      replace hC := Lib.hid hC
      replace hml := Lib.hid hml
      go_wp2_with fail
      have hbw0 := Lib.hid hbw
      have hzr0 := Lib.hid hzr
      go_loopw [9, 10] (fun vm vk wr => ∃ (k : Nat) (mo : Bool) (m : List Bool), k ≤ l.length ∧ vk = .int .i64 (k : Int) ∧ vm = .bool mo ∧ Own bE 1 4 wr w.heap.size (.slice (some ⟨w.heap.size, 0, none⟩) m.length m.length) m ∧ Snd (l.map Lkr.h) run nm m ∧ Pass (l.map Lkr.h) run m0 m mo k ∧ w.heap.size < wr.heap.size ∧ Below w.heap.size w wr) (fun _ vk _ => l.length - (intOf vk).toNat)
      case atStart => exact ⟨0, false, m0, Nat.zero_le _, rfl, rfl, hO.out, hS.out, Pass.start m0, hzr0.out, hbw0.out⟩
      case round =>
        clear hO hS hC hbw0 hzr0
        replace hbw := Lib.hid hbw
        replace hzr := Lib.hid hzr
        obtain ⟨k, mo, m, hk, rfl, rfl, hO, hS, hP, hzr, hbw⟩ := hrel
        have hml2 : m.length = l.length := by have := hS.len; rwa [List.length_map] at this
        by_cases hkl : k < l.length
        · have i0 : (0 : Int) ≤ (k : Int) := by omega
          have i1 : (k : Int) < (l.length : Int) := by omega
          have hbw0 := Lib.hid hbw
          have hzr0 := Lib.hid hzr
          replace hO := Lib.hid hO
          replace hS := Lib.hid hS
          replace hP := Lib.hid hP
          replace hml2 := Lib.hid hml2
          obtain ⟨x, hx⟩ := get_some hkl
          have hxm : (l.map Lkr.h)[k]? = some x.h := by rw [List.getElem?_map, hx]; rfl
          obtain ⟨g, o, rfl, hg, _⟩ := hgen.out k x wr hx hbw
          have hxi := (hlab.out x (List.mem_of_getElem? hx)).2.2
          have hxn := Lib.hid (hmil.out x (List.mem_of_getElem? hx)).ins
          have hxl := (hmil.out x (List.mem_of_getElem? hx)).len
          have hg4 : Hid (∀ W, Below w.heap.size w W → W.cell? ⟨g, o + k * 8 + 4, none⟩ = some (.slice x.insA x.ins.length x.insC)) := Lib.hid fun W hb => by
            obtain ⟨g', o', e, _, hq⟩ := hgen.out k x W hx hb
            simp only [Option.some.injEq, Addr.mk.injEq, and_true] at e
            obtain ⟨rfl, rfl⟩ := e
            exact hq
          obtain ⟨IA, hIA⟩ : ∃ IA, x.insA = IA := ⟨_, rfl⟩
          rw [hIA] at hg4 hxi
          replace hIA := Lib.hid hIA
          replace hxi := Lib.hid hxi
          replace hx := Lib.hid hx
          replace hxm := Lib.hid hxm
          go_wp2_with fail
          go_loopw [9, 11] (fun vm vp wr => ∃ (p : Nat) (mo : Bool) (m : List Bool), p ≤ x.ins.length ∧ vp = .int .i64 (p : Int) ∧ vm = .bool mo ∧ Own bE 1 4 wr w.heap.size (.slice (some ⟨w.heap.size, 0, none⟩) m.length m.length) m ∧ Snd (l.map Lkr.h) run nm m ∧ Pass (l.map Lkr.h) run m0 m mo k ∧ (mo = false → ∀ y ∈ x.ins.take p, InM (l.map Lkr.h) run m y) ∧ w.heap.size < wr.heap.size ∧ Below w.heap.size w wr) (fun _ vp _ => x.ins.length - (intOf vp).toNat)
          case atStart => exact ⟨0, mo, m, Nat.zero_le _, rfl, rfl, hO.out, hS.out, hP.out, (fun _ y hy => absurd hy (by simp)), hzr0.out, hbw0.out⟩
          case round =>
            clear hO hS hP hbw0 hzr0 hml2
            replace hbw := Lib.hid hbw
            replace hzr := Lib.hid hzr
            obtain ⟨p, mo, m, hp, rfl, rfl, hO, hS, hP, hin, hzr, hbw⟩ := hrel
            have hz := hbw.size
            have hml2 : m.length = l.length := by have := hS.len; rwa [List.length_map] at this
            have q4 := hg4.out wr hbw
            have hgr : g < wr.heap.size := by omega
            by_cases hpl : p < x.ins.length
            · obtain ⟨y, hy⟩ := get_some hpl
              obtain ⟨b, hb⟩ := get_some (show k < m.length by omega)
              have hck := own_cell1 bE_len hO hb rfl
              obtain ⟨gi, oi, rfl, hgi, hq⟩ := hxi.out (by omega)
              have r0 := (hbw.cell (p := ⟨gi, oi + p * 3 + 0, none⟩) hgi).trans (hq p y hy 0 (.string y.name.1) rfl)
              rw [Nat.add_zero] at r0
              clear hq
              have p0 : (0 : Int) ≤ (p : Int) := by omega
              have p1 : (p : Int) < (x.ins.length : Int) := by omega
              have hgir : gi < wr.heap.size := by omega
              rcases b with _ | _
              · have hP2 := Lib.hid (hP.next (fun _ hm => by rw [hb] at hm; cases hm))
                replace hb := Lib.hid hb
                replace hy := Lib.hid hy
                replace hin := Lib.hid hin
                replace hO := Lib.hid hO
                replace hS := Lib.hid hS
                replace hP := Lib.hid hP
                replace hml2 := Lib.hid hml2
                go_wp2_with fail
                go_roundw
                case rel => exact ⟨k + 1, mo, m, by omega, by go_num, rfl, hO.out, hS.out, hP2.out, hzr, hbw⟩
                case measure => simp [intOf]; omega
              · have hym := List.mem_of_getElem? hy
                have htk := take_at hy
                have hid1 := fun W hb => hidn.out y.name W hb
                have hext : Hid (InM (l.map Lkr.h) run m y → mo = false → ∀ z ∈ x.ins.take (p + 1), InM (l.map Lkr.h) run m z) := Lib.hid fun h e z hz => by
                  rw [htk] at hz
                  rcases List.mem_append.1 hz with h1 | h1
                  · exact hin e z h1
                  · obtain rfl := List.mem_singleton.1 h1
                    exact h
                replace htk := Lib.hid htk
                replace hy := Lib.hid hy
                replace hin := Lib.hid hin
                rcases hh2 : hasL (l.map Lkr.h) run y.name with _ | _
                · have hex2 := Lib.hid (hext.out (fun _ h => by rw [hh2] at h; cases h))
                  rw [idxI_no hh2] at hid1
                  have hid := Lib.hid hid1
                  clear hid1
                  replace hh2 := Lib.hid hh2
                  replace hb := Lib.hid hb
                  replace hO := Lib.hid hO
                  replace hS := Lib.hid hS
                  replace hP := Lib.hid hP
                  replace hml2 := Lib.hid hml2
                  go_wp2_with (go_at_call 38; go_must (refine (hid.out _ (by repeat (first | (with_reducible exact Below.refl _ _) | (with_reducible refine Below.drew ?_) | (with_reducible refine below_drewN ?_ _) | ((with_reducible refine Below.alloc ?_ ?_ _); rotate_left; focus ((try simp) <;> omega)) | ((with_reducible refine Below.setCell ?_ ?_ _); rotate_left; focus ((try simp) <;> omega)) | ((with_reducible refine Below.trans ?_ (Below.mono (by assumption) ?_)); rotate_left; focus ((try simp) <;> omega))))).mono ?_; rintro e w2 ⟨rfl, hb2⟩; have hz2 := hb2.size; (try simp at hz2); have hk2 : w.heap.size < w2.heap.size := (by omega); obtain ⟨hc2, hf2⟩ := blk_at hb2 w.heap.size (by (try simp) <;> omega); obtain ⟨hd2, he2⟩ := blk_at hb2 g (by (try simp) <;> omega); obtain ⟨hu2, hv2⟩ := blk_at hb2 gi (by (try simp) <;> omega)))
                  have hba : Below wr.heap.size wr w2 := (by repeat (first | (with_reducible exact Below.refl _ _) | (with_reducible refine Below.drew ?_) | (with_reducible refine below_drewN ?_ _) | ((with_reducible refine Below.alloc ?_ ?_ _); rotate_left; focus ((try simp) <;> omega)) | ((with_reducible refine Below.setCell ?_ ?_ _); rotate_left; focus ((try simp) <;> omega)) | ((with_reducible refine Below.trans ?_ (Below.mono (by assumption) ?_)); rotate_left; focus ((try simp) <;> omega))))
                  go_roundw
                  case rel => exact ⟨p + 1, mo, m, by omega, by go_num, rfl, hO.out.all hba, hS.out, hP.out, hex2.out, by have := hba.size; omega, hbw.trans (hba.mono hz)⟩
                  case measure => simp [intOf]; omega
                · rw [idxI_yes hh2] at hid1
                  have hjl := idx_lt hh2
                  rw [List.length_map] at hjl
                  have har0 := fun W => rartifact_any y.name W (hxn.out y hym)
                  rcases ha : artB y.name with _ | _
                  · have hex2 := Lib.hid (hext.out (fun h _ => by rw [ha] at h; cases h))
                    rw [ha] at har0
                    have har := Lib.hid har0
                    clear har0
                    generalize idxL (l.map Lkr.h) run y.name = J2 at hid1 hjl
                    have hid := Lib.hid hid1
                    clear hid1
                    have jj0 : (0 : Int) ≤ (J2 : Int) := by omega
                    replace hh2 := Lib.hid hh2
                    replace hb := Lib.hid hb
                    replace hO := Lib.hid hO
                    replace hS := Lib.hid hS
                    replace hP := Lib.hid hP
                    replace hml2 := Lib.hid hml2
                    replace ha := Lib.hid ha
                    go_wp2_with (first | (go_at_call 38; go_must (refine (hid.out _ (by repeat (first | (with_reducible exact Below.refl _ _) | (with_reducible refine Below.drew ?_) | (with_reducible refine below_drewN ?_ _) | ((with_reducible refine Below.alloc ?_ ?_ _); rotate_left; focus ((try simp) <;> omega)) | ((with_reducible refine Below.setCell ?_ ?_ _); rotate_left; focus ((try simp) <;> omega)) | ((with_reducible refine Below.trans ?_ (Below.mono (by assumption) ?_)); rotate_left; focus ((try simp) <;> omega))))).mono ?_; rintro e w2 ⟨rfl, hb2⟩; have hz2 := hb2.size; (try simp at hz2); have hk2 : w.heap.size < w2.heap.size := (by omega); obtain ⟨hc2, hf2⟩ := blk_at hb2 w.heap.size (by (try simp) <;> omega); obtain ⟨hd2, he2⟩ := blk_at hb2 g (by (try simp) <;> omega); obtain ⟨hu2, hv2⟩ := blk_at hb2 gi (by (try simp) <;> omega))) | (go_at_call 39; go_must (refine (har.out _).mono ?_; rintro e w3 ⟨rfl, hb3⟩; have hz3 := hb3.size; (try simp at hz3); obtain ⟨hc3, hf3⟩ := blk_at hb3 w.heap.size (by (try simp) <;> omega); obtain ⟨hd3, he3⟩ := blk_at hb3 g (by (try simp) <;> omega))))
                    have hba : Below wr.heap.size wr w3 := (by repeat (first | (with_reducible exact Below.refl _ _) | (with_reducible refine Below.drew ?_) | (with_reducible refine below_drewN ?_ _) | ((with_reducible refine Below.alloc ?_ ?_ _); rotate_left; focus ((try simp) <;> omega)) | ((with_reducible refine Below.setCell ?_ ?_ _); rotate_left; focus ((try simp) <;> omega)) | ((with_reducible refine Below.trans ?_ (Below.mono (by assumption) ?_)); rotate_left; focus ((try simp) <;> omega))))
                    go_roundw
                    case rel => exact ⟨p + 1, mo, m, by omega, by go_num, rfl, hO.out.all hba, hS.out, hP.out, hex2.out, by have := hba.size; omega, hbw.trans (hba.mono hz)⟩
                    case measure => simp [intOf]; omega
                  · rw [ha] at har0
                    have har := Lib.hid har0
                    clear har0
                    obtain ⟨J2, hJ2⟩ : ∃ J, idxL (l.map Lkr.h) run y.name = J := ⟨_, rfl⟩
                    rw [hJ2] at hid1 hjl
                    have hid := Lib.hid hid1
                    clear hid1
                    have jj0 : (0 : Int) ≤ (J2 : Int) := by omega
                    have jj1 : (J2 : Int) < (l.length : Int) := by omega
                    obtain ⟨b2, hb2m⟩ := get_some (show J2 < m.length by omega)
                    have hcJ := own_cell1 bE_len hO hb2m rfl
                    have hfJ := own_frz1 (k := J2) hO
                    rcases b2 with _ | _
                    · have hS2 : Hid (Snd (l.map Lkr.h) run nm (m.set J2 true)) := Lib.hid (by rw [← hJ2]; exact hS.mark hb hxm.out hym ha hh2)
                      have hP2 := Lib.hid (hP.mark hb2m)
                      have hO2 : Hid (∀ W, Below wr.heap.size wr W → Own bE 1 4 (W.setCell ⟨w.heap.size, J2, none⟩ (.bool true)) w.heap.size (.slice (some ⟨w.heap.size, 0, none⟩) (m.set J2 true).length (m.set J2 true).length) (m.set J2 true)) := Lib.hid fun W hbW => by
                        have h := own_set bE_len (hO.all hbW) (x := true) (k := J2) rfl (by omega)
                        rw [List.length_set]
                        exact h
                      replace hh2 := Lib.hid hh2
                      replace hb := Lib.hid hb
                      replace hO := Lib.hid hO
                      replace hS := Lib.hid hS
                      replace hP := Lib.hid hP
                      replace hml2 := Lib.hid hml2
                      replace ha := Lib.hid ha
                      replace hJ2 := Lib.hid hJ2
                      replace hb2m := Lib.hid hb2m
                      go_wp2_with (first | (go_at_call 38; go_must (refine (hid.out _ (by repeat (first | (with_reducible exact Below.refl _ _) | (with_reducible refine Below.drew ?_) | (with_reducible refine below_drewN ?_ _) | ((with_reducible refine Below.alloc ?_ ?_ _); rotate_left; focus ((try simp) <;> omega)) | ((with_reducible refine Below.setCell ?_ ?_ _); rotate_left; focus ((try simp) <;> omega)) | ((with_reducible refine Below.trans ?_ (Below.mono (by assumption) ?_)); rotate_left; focus ((try simp) <;> omega))))).mono ?_; rintro e w2 ⟨rfl, hb2⟩; have hz2 := hb2.size; (try simp at hz2); have hk2 : w.heap.size < w2.heap.size := (by omega); obtain ⟨hc2, hf2⟩ := blk_at hb2 w.heap.size (by (try simp) <;> omega); obtain ⟨hd2, he2⟩ := blk_at hb2 g (by (try simp) <;> omega); obtain ⟨hu2, hv2⟩ := blk_at hb2 gi (by (try simp) <;> omega))) | (go_at_call 39; go_must (refine (har.out _).mono ?_; rintro e w3 ⟨rfl, hb3⟩; have hz3 := hb3.size; (try simp at hz3); obtain ⟨hc3, hf3⟩ := blk_at hb3 w.heap.size (by (try simp) <;> omega); obtain ⟨hd3, he3⟩ := blk_at hb3 g (by (try simp) <;> omega))))
                      have hb3w : Below wr.heap.size wr w3 := (by repeat (first | (with_reducible exact Below.refl _ _) | (with_reducible refine Below.drew ?_) | (with_reducible refine below_drewN ?_ _) | ((with_reducible refine Below.alloc ?_ ?_ _); rotate_left; focus ((try simp) <;> omega)) | ((with_reducible refine Below.setCell ?_ ?_ _); rotate_left; focus ((try simp) <;> omega)) | ((with_reducible refine Below.trans ?_ (Below.mono (by assumption) ?_)); rotate_left; focus ((try simp) <;> omega))))
                      have hb3f : Below w.heap.size w (w3.setCell ⟨w.heap.size, J2, none⟩ (.bool true)) := Below.setCell (hbw.trans (hb3w.mono hz)) (Nat.le_refl _) _
                      go_roundw
                      case rel => exact ⟨p + 1, true, _, by omega, by go_num, rfl, hO2.out _ hb3w, hS2.out, hP2.out, (fun e => by cases e), by (try simp) <;> omega, hb3f⟩
                      case measure => simp [intOf]; omega
                    · have hex2 := Lib.hid (hext.out (fun _ _ => by rw [hJ2]; exact hb2m))
                      replace hh2 := Lib.hid hh2
                      replace hb := Lib.hid hb
                      replace hO := Lib.hid hO
                      replace hS := Lib.hid hS
                      replace hP := Lib.hid hP
                      replace hml2 := Lib.hid hml2
                      replace ha := Lib.hid ha
                      replace hJ2 := Lib.hid hJ2
                      replace hb2m := Lib.hid hb2m
                      go_wp2_with (first | (go_at_call 38; go_must (refine (hid.out _ (by repeat (first | (with_reducible exact Below.refl _ _) | (with_reducible refine Below.drew ?_) | (with_reducible refine below_drewN ?_ _) | ((with_reducible refine Below.alloc ?_ ?_ _); rotate_left; focus ((try simp) <;> omega)) | ((with_reducible refine Below.setCell ?_ ?_ _); rotate_left; focus ((try simp) <;> omega)) | ((with_reducible refine Below.trans ?_ (Below.mono (by assumption) ?_)); rotate_left; focus ((try simp) <;> omega))))).mono ?_; rintro e w2 ⟨rfl, hb2⟩; have hz2 := hb2.size; (try simp at hz2); have hk2 : w.heap.size < w2.heap.size := (by omega); obtain ⟨hc2, hf2⟩ := blk_at hb2 w.heap.size (by (try simp) <;> omega); obtain ⟨hd2, he2⟩ := blk_at hb2 g (by (try simp) <;> omega); obtain ⟨hu2, hv2⟩ := blk_at hb2 gi (by (try simp) <;> omega))) | (go_at_call 39; go_must (refine (har.out _).mono ?_; rintro e w3 ⟨rfl, hb3⟩; have hz3 := hb3.size; (try simp at hz3); obtain ⟨hc3, hf3⟩ := blk_at hb3 w.heap.size (by (try simp) <;> omega); obtain ⟨hd3, he3⟩ := blk_at hb3 g (by (try simp) <;> omega))))
                      have hba : Below wr.heap.size wr w3 := (by repeat (first | (with_reducible exact Below.refl _ _) | (with_reducible refine Below.drew ?_) | (with_reducible refine below_drewN ?_ _) | ((with_reducible refine Below.alloc ?_ ?_ _); rotate_left; focus ((try simp) <;> omega)) | ((with_reducible refine Below.setCell ?_ ?_ _); rotate_left; focus ((try simp) <;> omega)) | ((with_reducible refine Below.trans ?_ (Below.mono (by assumption) ?_)); rotate_left; focus ((try simp) <;> omega))))
                      go_roundw
                      case rel => exact ⟨p + 1, mo, m, by omega, by go_num, rfl, hO.out.all hba, hS.out, hP.out, hex2.out, by have := hba.size; omega, hbw.trans (hba.mono hz)⟩
                      case measure => simp [intOf]; omega
            · have p1 : ¬ (p : Int) < (x.ins.length : Int) := by omega
              have hP2 := Lib.hid (hP.next (fun e _ l' hl' y hy => by
                rw [hxm.out] at hl'
                obtain rfl : x.h = l' := by simpa using hl'
                exact hin e y (by rw [List.take_of_length_le (by omega)]; exact hy)))
              replace hin := Lib.hid hin
              replace hO := Lib.hid hO
              replace hS := Lib.hid hS
              replace hP := Lib.hid hP
              replace hml2 := Lib.hid hml2
              go_wp2_with fail
              go_roundw
              case rel => exact ⟨k + 1, mo, m, by omega, by go_num, rfl, hO.out, hS.out, hP2.out, hzr, hbw⟩
              case measure => simp [intOf]; omega
        · have i1 : ¬ (k : Int) < (l.length : Int) := by omega
          have hmu1 : Hid (unW l.length w.heap.size wr = muM m) := Lib.hid (by rw [← hml2]; exact unW_of hO)
          have hC2 : Hid (mo = false → ∀ j, j < l.length → m[j]? = some true → Clo (l.map Lkr.h) run m j) := Lib.hid (fun e j hj hm => by
            exact (hP.stay e).2 j (by omega) hm)
          have hme : Hid (2 * muM m + moreV (.bool mo) < 2 * muM m0 + 1) := Lib.hid (by
            rcases mo with _ | _
            · have := hP.le; show 2 * muM m + 0 < _; omega
            · have := hP.less rfl; show 2 * muM m + 1 < _; omega)
          replace hO := Lib.hid hO
          replace hS := Lib.hid hS
          replace hP := Lib.hid hP
          replace hml2 := Lib.hid hml2
          go_wp2_with fail
          go_roundw
          case rel => exact ⟨mo, m, rfl, hO.out, hS.out, hC2.out, hzr, hbw⟩
          case measure =>
            rw [hmu1.out, hmu0.out]
            exact hme.out
end Go.Proofs.YtjkijknjngiieaaGreatDoor
