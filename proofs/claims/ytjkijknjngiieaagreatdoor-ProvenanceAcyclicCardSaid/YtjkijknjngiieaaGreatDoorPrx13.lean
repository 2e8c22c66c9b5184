/-
  Provenance: what the law of its sources asks, of links that were added one by one (plain).
-/
import Derived.Test.YtjkijknjngiieaaGreatDoorPrx12
namespace Go.Proofs.YtjkijknjngiieaaGreatDoor
open Go.RowKit

theorem srt_has {l : List Str} {s : Str} : hasS (srt l) s = true ↔ s ∈ l := hasS_iff.trans ((srtOf_is ord_str l).2 s)
theorem rep_right {ls : List Lnk} {l : Lnk} (h : lnkErr ls l = 0) : rightB l = true := by
  rcases hr : rightB l with _ | _
  · rw [lerr_1 hr] at h
    exact absurd h (by decide)
  · rfl
theorem blt_in {all : List Lnk} (h : Blt all) {i : Nat} {a : Lnk} (ha : all[i]? = some a) {x : OutR} (hx : x ∈ a.ins) (hf : fileS x.name = none) : artB x.name = true := by
  have h1 := rep_right (h i a ha)
  rw [right_of, Bool.and_eq_true, List.all_eq_true] at h1
  have h2 := h1.2 x hx
  unfold inB at h2
  rw [hf] at h2
  simpa using h2
theorem acy_file {all : List Lnk} (h : Blt all) {i : Nat} {a : Lnk} (ha : all[i]? = some a) {x : OutR} (hx : x ∈ a.ins) {p : Str} (hp : fileS x.name = some p) : hasS (srt (srcL all a.run (nameL a))) p = true := srt_has.2 (own_file h ha hx hp)
theorem acy_more {all : List Lnk} (h : Blt all) {i : Nat} {a : Lnk} (ha : all[i]? = some a) {x : OutR} (hx : x ∈ a.ins) (hp : fileS x.name = none) {f : Str} (hf : f ∈ srt (srcL all a.run x.name)) : hasS (srt (srcL all a.run (nameL a))) f = true :=
  srt_has.2 (own_more h ha hx (blt_in h ha hx hp) (((srtOf_is ord_str _).2 f).1 hf))
theorem acy_from {all : List Lnk} (h : Blt all) {i : Nat} {a : Lnk} (ha : all[i]? = some a) {f : Str} (hf : f ∈ srt (srcL all a.run (nameL a))) : a.ins.any (fromI all a.run f) = true := by
  rw [List.any_eq_true]
  rcases own_from h ha (((srtOf_is ord_str _).2 f).1 hf) with ⟨x, hx, h1⟩ | ⟨x, hx, h1, h2⟩
  · exact ⟨x, hx, by rw [fromI_file h1]; exact decide_eq_true rfl⟩
  · exact ⟨x, hx, by rw [fromI_more (art_nofile h1)]; exact srt_has.2 h2⟩
theorem acy_each {all : List Lnk} (h : Blt all) {i : Nat} {a : Lnk} (ha : all[i]? = some a) : EachC (chainL all a.run (nameL a)) a.run := fun _ _ hp => chain_each h ha hp
theorem acy_last {all : List Lnk} (h : Blt all) {i : Nat} {a : Lnk} (ha : all[i]? = some a) : ∃ n, (chainL all a.run (nameL a)).length = n + 1 ∧ (chainL all a.run (nameL a))[n]? = some a := by
  have h1 := chain_last h ha
  rw [List.getLast?_eq_getElem?] at h1
  have h2 := (List.getElem?_eq_some_iff.1 h1).1
  exact ⟨(chainL all a.run (nameL a)).length - 1, by omega, h1⟩
theorem add_len {l' cur : List Lkr} {x : Lkr} (h : l'.map Lkr.h = lnkAdd (cur.map Lkr.h) x.h) : l'.length ≤ cur.length + 1 := by
  have := congrArg List.length h
  rw [List.length_map] at this
  rw [this]
  unfold lnkAdd
  split <;> simp
theorem add_mild {l' cur : List Lkr} {x : Lkr} (h : l'.map Lkr.h = lnkAdd (cur.map Lkr.h) x.h) (hc : ∀ y ∈ cur, MildK y) (hx : MildK x) : ∀ y ∈ l', MildK y := fun y hy => by
  have h1 : y.h ∈ lnkAdd (cur.map Lkr.h) x.h := by rw [← h]; exact List.mem_map.2 ⟨y, hy, rfl⟩
  have h2 : y.h ∈ cur.map Lkr.h ∨ y.h = x.h := by
    unfold lnkAdd at h1
    split at h1
    · exact .inl h1
    · rcases List.mem_append.1 h1 with h3 | h3
      · exact .inl h3
      · exact .inr (List.mem_singleton.1 h3)
  rcases h2 with h2 | h2
  · obtain ⟨z, hz, e⟩ := List.mem_map.1 h2
    exact mild_h e.symm (hc z hz)
  · exact mild_h h2 hx
theorem add_blt {l' cur : List Lkr} {x : Lkr} (h : l'.map Lkr.h = lnkAdd (cur.map Lkr.h) x.h) (hb : Blt (cur.map Lkr.h)) : Blt (l'.map Lkr.h) := by rw [h]; exact blt_add hb x.h
theorem blt_ver {all : List Lnk} (h : Blt all) : verErr [] all = 0 := ver_of all [] (by simpa using h)
theorem ownl_len {w : World} {H c : Nat} {A : Option Addr} {l : List Lkr} (h : OwnL w H (.slice A l.length c) l) : l.length ≤ c := by
  obtain ⟨A4, c4, e4, hlc4, _, _⟩ := h.row.form
  obtain ⟨_, _, rfl⟩ : A = A4 ∧ True ∧ c = c4 := by simpa using e4
  exact hlc4
end Go.Proofs.YtjkijknjngiieaaGreatDoor
