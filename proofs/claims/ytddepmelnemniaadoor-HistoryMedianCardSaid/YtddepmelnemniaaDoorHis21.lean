/-
  Histories: results added one by one; a history put for another (plain facts, also of the memory).
-/
import Derived.Test.YtddepmelnemniaaDoorHis20
import Derived.Test.YtddepmelnemniaaDoorHisP

namespace Go.Proofs.YtddepmelnemniaaDoor
open Go.RowKit

structure MildH (l : List Hst) : Prop where
  len : l.length ≤ 1000000
  samps : ∀ x ∈ l, x.l.length ≤ 1000000
  name : ∀ x ∈ l, x.name.1.size < 4294967281
theorem at_hst {l : List Hst} {p : Str} (h : hasN p (l.map Hst.h) = true) : ∃ x, l[atN p (l.map Hst.h)]? = some x ∧ x.name = p ∧ oldS (l.map Hst.h) p = x.l := by
  have h0 := h
  unfold hasN at h
  rw [Bool.and_eq_true, decide_eq_true_eq, decide_eq_true_eq, List.length_map] at h
  obtain ⟨x, hx⟩ := get_some h.1
  have hm : (l.map Hst.h)[atN p (l.map Hst.h)]? = some x.h := by rw [List.getElem?_map, hx]; rfl
  have h2 := h.2
  rw [get_bang hm] at h2
  refine ⟨x, hx, (ord_str.zero _ _).1 h2, ?_⟩
  unfold oldS
  rw [if_pos h0, get_bang hm]
  rfl
theorem old_none {L : List Hs} {p : Str} (h : hasN p L = false) : oldS L p = [] := by unfold oldS; rw [if_neg (by rw [h]; decide)]
theorem late_no {L : List Hs} {r : Res} {now : Int} (h : oldS L r.name = []) : lateR L now r = false := by unfold lateR; rw [h]; rfl
theorem late_last {L : List Hs} {r : Res} {now : Int} {l : List Samp} {s : Samp} {m : Nat} (h : oldS L r.name = l) (hm : l.length = m + 1) (hs : l[m]? = some s) : lateR L now r = decide (now < s.stamp.1) := by
  unfold lateR
  rw [h, List.getLast?_eq_getElem?, hm, Nat.add_sub_cancel, hs]
theorem fresh_succ {L : List Hs} {rs : List Res} {k : Nat} {r : Res} (h : rs[k]? = some r) : freshN L (rs.take (k + 1)) = freshN L (rs.take k) + if hasN r.name L = true then 0 else 1 := by
  unfold freshN
  rw [List.take_add_one, h, List.countP_append]
  cases h2 : hasN r.name L <;> simp [h2]
theorem late_succ {L : List Hs} {rs : List Res} {now : Int} {k : Nat} {r : Res} (h : rs[k]? = some r) (h0 : (rs.take k).any (lateR L now) = false) : (rs.take (k + 1)).any (lateR L now) = lateR L now r := by
  rw [List.take_add_one, h, List.any_append, h0]
  simp
theorem late_here {L : List Hs} {rs : List Res} {now : Int} {k : Nat} {r : Res} (h : rs[k]? = some r) (h0 : lateR L now r = true) : lateB L rs now = true := by
  unfold lateB
  rw [List.any_eq_true]
  exact ⟨r, List.mem_of_getElem? h, h0⟩
theorem fresh_le (L : List Hs) (rs : List Res) : freshN L rs ≤ rs.length := List.countP_le_length
theorem fresh_take (L : List Hs) (rs : List Res) (k : Nat) : freshN L (rs.take k) ≤ freshN L rs := (List.take_sublist k rs).countP_le
theorem all_succ {L : List Hs} {rs : List Res} {code : U64} {now : I64} {k : Nat} {r : Res} (h : rs[k]? = some r) : addAll L (rs.take (k + 1)) code now = withL (addAll L (rs.take k) code now) r.name (sampR r code now) := by
  unfold addAll
  rw [List.take_add_one, h, List.foldl_append]
  rfl
theorem name_once {rs : List Res} {k : Nat} {r : Res} (hn : (rs.map Res.name).Nodup) (h : rs[k]? = some r) : r.name ∉ (rs.take k).map Res.name := by
  intro hm
  obtain ⟨q, hq, e⟩ := List.mem_map.1 hm
  obtain ⟨j, hj⟩ := List.getElem?_of_mem hq
  rw [List.getElem?_take] at hj
  split at hj
  · rename_i hjk
    have h1 : (rs.map Res.name)[j]? = some q.name := by rw [List.getElem?_map, hj]; rfl
    have h2 : (rs.map Res.name)[k]? = some r.name := by rw [List.getElem?_map, h]; rfl
    obtain ⟨a1, b1⟩ := List.getElem?_eq_some_iff.1 h1
    obtain ⟨a2, b2⟩ := List.getElem?_eq_some_iff.1 h2
    have := List.pairwise_iff_getElem.1 hn j k a1 a2 hjk
    rw [b1, b2] at this
    exact this e
  · cases hj
theorem err_1 {L : List Hs} {rs : List Res} {now : Int} (h : valErr L ≠ 0) : addErr L rs now = valErr L := by unfold addErr; rw [if_pos h]
theorem err_2 {L : List Hs} {rs : List Res} {now : Int} (h : valErr L = 0) (h2 : repErr rs ≠ 0) : addErr L rs now = repErr rs := by unfold addErr; rw [if_neg (Classical.not_not.2 h), if_pos h2]
theorem err_3 {L : List Hs} {rs : List Res} {now : Int} (h : valErr L = 0) (h2 : repErr rs = 0) (h3 : timeB now = false) : addErr L rs now = 2 := by unfold addErr; rw [if_neg (Classical.not_not.2 h), if_neg (Classical.not_not.2 h2), if_pos h3]
theorem err_4 {L : List Hs} {rs : List Res} {now : Int} (h : valErr L = 0) (h2 : repErr rs = 0) (h3 : timeB now = true) (h4 : lateB L rs now = true) : addErr L rs now = 22 := by unfold addErr; rw [if_neg (Classical.not_not.2 h), if_neg (Classical.not_not.2 h2), if_neg (by rw [h3]; decide), if_pos h4]
theorem err_5 {L : List Hs} {rs : List Res} {now : Int} (h : valErr L = 0) (h2 : repErr rs = 0) (h3 : timeB now = true) (h4 : lateB L rs now = false) (h5 : 4096 < L.length + freshN L rs) : addErr L rs now = 15 := by unfold addErr; rw [if_neg (Classical.not_not.2 h), if_neg (Classical.not_not.2 h2), if_neg (by rw [h3]; decide), if_neg (by rw [h4]; decide), if_pos h5]
theorem err_6 {L : List Hs} {rs : List Res} {now : Int} (h : valErr L = 0) (h2 : repErr rs = 0) (h3 : timeB now = true) (h4 : lateB L rs now = false) (h5 : ¬ 4096 < L.length + freshN L rs) : addErr L rs now = 0 := by unfold addErr; rw [if_neg (Classical.not_not.2 h), if_neg (Classical.not_not.2 h2), if_neg (by rw [h3]; decide), if_neg (by rw [h4]; decide), if_neg h5]
theorem add_same {L : List Hs} {rs : List Res} {code : U64} {now : I64} (h : addErr L rs now.1 ≠ 0) : addL L rs code now = L := by unfold addL; rw [if_pos h]
theorem add_done {L : List Hs} {rs : List Res} {code : U64} {now : I64} (h : addErr L rs now.1 = 0) : addL L rs code now = addAll L rs code now := by unfold addL; rw [if_neg (Classical.not_not.2 h)]
theorem set_cellN {α : Type} {enc : α → List Value} {k : Nat} (hk : ∀ x : α, (enc x).length = k) {e : TypeId} {w : World} {H g cap i n : Nat} {l : List α} (j : Nat) {x y : α} {u : Value} (hown : Own enc k e w H (.slice (some ⟨g, 0, none⟩) n cap) l) (hn : l.length = n) (hx : l[i]? = some x) (hj : j < k) (hy : enc y = (enc x).set j u) :
    Own enc k e (w.setCell ⟨g, i * k + j, none⟩ u) H (.slice (some ⟨g, 0, none⟩) n cap) (l.set i y) := by
  subst hn
  exact set_cell hk hown hx hj hy
theorem OwnH.put {w : World} {H g cap n k : Nat} {l : List Hst} {x y : Hst} (h : OwnH w H (.slice (some ⟨g, 0, none⟩) n cap) l) (hn : l.length = n) (hx : l[k]? = some x) (hy : LabS w y) (hyn : y.name = x.name) :
    OwnH (w.setCell ⟨g, k * 2 + 1, none⟩ (.slice y.lA y.l.length y.lC)) H (.slice (some ⟨g, 0, none⟩) n cap) (l.set k y) := by
  refine ⟨set_cellN hstE_len 1 h.row hn hx (by omega) (by unfold hstE; rw [hyn]; rfl), fun z hz => ?_⟩
  have hz2 : LabS w z := by
    rcases List.mem_or_eq_of_mem_set hz with h1 | h1
    · exact h.labs z h1
    · rw [h1]; exact hy
  exact hz2.keep (fun q hq => Below.heap_setCell w _ _ q (fun e => row_sb h.row hq (by subst e; rfl))) (by rw [World.size_setCell]; exact Nat.le_refl _)
/-- While the results are added. -/
structure MidA (w : World) (H : Nat) (v : Value) (cur : List Hst) (L : List Hs) (rs : List Res) (code : U64) (now : I64) (k : Nat) : Prop where
  own : OwnH w H v cur
  same : cur.map Hst.h = addAll L (rs.take k) code now
  full : ∀ x ∈ cur, x.name ∉ (rs.take k).map Res.name → x.lC = x.l.length
  small : ∀ x ∈ cur, x.l.length ≤ 1000000
theorem MidA.len {w : World} {H : Nat} {v : Value} {cur : List Hst} {L : List Hs} {rs : List Res} {code : U64} {now : I64} {k : Nat} (h : MidA w H v cur L rs code now k) (he : addErr L rs now.1 = 0) : cur.length ≤ 4096 := by
  obtain ⟨hv, hr, _, _, hc⟩ := addErr_ok he
  have h1 := congrArg List.length h.same
  have hn : ((rs.take k).map Res.name).Nodup := by rw [List.map_take]; exact List.Nodup.sublist (List.take_sublist _ _) hr.nodup
  rw [List.length_map, all_len hv.asc hn] at h1
  have := fresh_take L rs k
  omega
theorem MidA.next {w : World} {H g cap n k i : Nat} {cur : List Hst} {L : List Hs} {rs : List Res} {code : U64} {now : I64} {r : Res} {x y : Hst} {l0 : List Hst} {w0 : World} {v0 : Value} (h : MidA w0 H v0 l0 L rs code now k) (hr : rs[k]? = some r)
    (hO : OwnH w H (.slice (some ⟨g, 0, none⟩) n cap) cur) (hn : cur.length = n) (hx : cur[i]? = some x) (hy : LabS w y) (hxn : x.name = r.name) (hyn : y.name = r.name) (hyl : y.l.length ≤ 1000000) (hxs : x.l.length ≤ 1000000)
    (hc : ∀ z ∈ cur, z ∈ l0 ∨ z = x) (hs : (cur.set i y).map Hst.h = withL (l0.map Hst.h) r.name (sampR r code now)) :
    MidA (w.setCell ⟨g, i * 2 + 1, none⟩ (.slice y.lA y.l.length y.lC)) H (.slice (some ⟨g, 0, none⟩) n cap) (cur.set i y) L rs code now (k + 1) := by
  have hnm : (rs.take (k + 1)).map Res.name = (rs.take k).map Res.name ++ [r.name] := by rw [List.take_add_one, hr, List.map_append]; rfl
  refine ⟨hO.put hn hx hy (hyn.trans hxn.symm), by rw [hs, h.same, all_succ hr], fun z hz hzn => ?_, fun z hz => ?_⟩
  · rw [hnm] at hzn
    rcases List.mem_or_eq_of_mem_set hz with h1 | h1
    · rcases hc z h1 with h2 | h2
      · exact h.full z h2 fun hm => hzn (List.mem_append_left _ hm)
      · exact absurd (List.mem_append_right _ (by rw [h2, hxn]; exact List.mem_singleton_self _)) hzn
    · exact absurd (List.mem_append_right _ (by rw [h1, hyn]; exact List.mem_singleton_self _)) hzn
  · rcases List.mem_or_eq_of_mem_set hz with h1 | h1
    · rcases hc z h1 with h2 | h2
      · exact h.small z h2
      · rw [h2]; exact hxs
    · rw [h1]; exact hyl
end Go.Proofs.YtddepmelnemniaaDoor
