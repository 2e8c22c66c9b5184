/-
  Groups of jobs: a group put among others by the reference's loop (plain); finding a group by name (plain).
  Lists of groups of the call's own: one put in, one put for another (plain facts of the memory).
-/
import Derived.Test.YtbellobjajnlkaaDoorCon012
import Derived.Test.YtbellobjajnlkaaDoorCon12

namespace Go.Proofs.YtbellobjajnlkaaDoor
open Go.RowKit

/-- What the reference's loop has gathered before its k-th round. -/
def putR (gs : List G) (g : G) (k : Nat) : List G := if k ≤ atN g.name gs then gs.take k else (putG gs g).take (k + if hasN g.name gs = true then 0 else 1)
theorem putR_zero (gs : List G) (g : G) : putR gs g 0 = [] := by unfold putR; rw [if_pos (Nat.zero_le _)]; rfl
theorem putG_len {gs : List G} {g : G} (ha : AscN gs) : (putG gs g).length = gs.length + if hasN g.name gs = true then 0 else 1 := by
  obtain ⟨A, m, B, e, ep, hm, _⟩ := putG_split (g := g) ha
  have h1 := congrArg List.length e
  rw [ep]
  rcases hm with ⟨rfl, hn⟩ | ⟨x, rfl, _, hn, _⟩
  · rw [if_neg (by rw [hn]; decide)]
    simp at h1 ⊢; omega
  · rw [if_pos hn]
    simp at h1 ⊢; omega
theorem putG_at {gs : List G} {g : G} (ha : AscN gs) : (putG gs g)[atN g.name gs]? = some g := by
  have hle := (atN_spec ha g.name).1
  obtain ⟨A, m, B, _, ep, _, hA⟩ := putG_split (g := g) ha
  have hl : A.length = atN g.name gs := by rw [hA, List.length_take]; omega
  rw [ep, ← hl]
  simp
theorem putG_take {gs : List G} {g : G} (ha : AscN gs) : (putG gs g).take (atN g.name gs) = gs.take (atN g.name gs) := by
  have hle := (atN_spec ha g.name).1
  obtain ⟨A, m, B, _, ep, _, hA⟩ := putG_split (g := g) ha
  have hl : A.length = atN g.name gs := by rw [hA, List.length_take]; omega
  rw [ep, ← hA, ← hl]
  simp
theorem putG_far {gs : List G} {g : G} (ha : AscN gs) {k : Nat} (hk : atN g.name gs < k) : (putG gs g)[k + if hasN g.name gs = true then 0 else 1]? = gs[k]? := by
  have hle := (atN_spec ha g.name).1
  unfold putG
  rcases hh : hasN g.name gs with _ | _
  · rw [if_neg (by decide), if_neg (by decide)]
    have hl : (gs.take (atN g.name gs)).length = atN g.name gs := by rw [List.length_take]; omega
    rw [List.getElem?_append_right (by omega), hl]
    obtain ⟨d, hd⟩ : ∃ d, k + 1 - atN g.name gs = d + 1 := ⟨k - atN g.name gs, by omega⟩
    rw [hd, List.getElem?_cons_succ, List.getElem?_drop]
    congr 1
    omega
  · rw [if_pos rfl, if_pos rfl, List.getElem?_set_ne (by omega)]
    rfl
theorem take_snoc {α : Type} {l : List α} {k : Nat} {x : α} (h : l[k]? = some x) : l.take (k + 1) = l.take k ++ [x] := by
  rw [List.take_add_one, h]
  rfl
/-- A round ahead of the place. -/
theorem putR_low {gs : List G} {g : G} {k : Nat} {x : G} (hx : gs[k]? = some x) (hk : k < atN g.name gs) : putR gs g (k + 1) = putR gs g k ++ [x] := by
  unfold putR
  rw [if_pos (by omega), if_pos (by omega), take_snoc hx]
/-- The round at the place: the name is there. -/
theorem putR_has {gs : List G} {g : G} (ha : AscN gs) (hh : hasN g.name gs = true) : putR gs g (atN g.name gs + 1) = putR gs g (atN g.name gs) ++ [g] := by
  unfold putR
  rw [if_neg (by omega), if_pos (Nat.le_refl _), if_pos hh, Nat.add_zero, take_snoc (putG_at ha), putG_take ha]
/-- The round at the place: the name is not there. -/
theorem putR_no {gs : List G} {g : G} {x : G} (ha : AscN gs) (hx : gs[atN g.name gs]? = some x) (hh : hasN g.name gs = false) : putR gs g (atN g.name gs + 1) = putR gs g (atN g.name gs) ++ [g] ++ [x] := by
  unfold putR
  rw [if_neg (by omega), if_pos (Nat.le_refl _), hh, if_neg (by decide)]
  have h1 : (putG gs g)[atN g.name gs + 1]? = some x := by
    rw [← hx]
    unfold putG
    rw [hh, if_neg (by decide)]
    have hle := (atN_spec ha g.name).1
    have hl : (gs.take (atN g.name gs)).length = atN g.name gs := by rw [List.length_take]; omega
    rw [List.getElem?_append_right (by omega), hl, show atN g.name gs + 1 - atN g.name gs = 0 + 1 by omega, List.getElem?_cons_succ, List.getElem?_drop]
    rfl
  rw [take_snoc h1, take_snoc (putG_at ha), putG_take ha]
/-- A round behind the place. -/
theorem putR_high {gs : List G} {g : G} {k : Nat} {x : G} (ha : AscN gs) (hx : gs[k]? = some x) (hk : atN g.name gs < k) : putR gs g (k + 1) = putR gs g k ++ [x] := by
  unfold putR
  rw [if_neg (show ¬ k + 1 ≤ atN g.name gs by omega), if_neg (show ¬ k ≤ atN g.name gs by omega), Nat.add_right_comm, take_snoc (by rw [putG_far ha hk]; exact hx)]
theorem putR_end {gs : List G} {g : G} (ha : AscN gs) (h : atN g.name gs < gs.length) : putR gs g gs.length = putG gs g := by
  unfold putR
  rw [if_neg (by omega), List.take_of_length_le (by rw [putG_len ha]; exact Nat.le_refl _)]
theorem putR_last {gs : List G} {g : G} (ha : AscN gs) (h : ¬ atN g.name gs < gs.length) : putR gs g gs.length ++ [g] = putG gs g := by
  have hle := (atN_spec ha g.name).1
  have he : atN g.name gs = gs.length := by omega
  have hh : hasN g.name gs = false := by unfold hasN; rw [decide_eq_false h]; rfl
  unfold putR putG
  rw [if_pos (by omega), hh, if_neg (by decide), he, List.drop_length, List.take_length]
/-- The names at, ahead of and behind the place. -/
theorem at_low {gs : List G} {p : Str} {k : Nat} {x : G} (ha : AscN gs) (hx : gs[k]? = some x) (hk : k < atN p gs) : ¬ cmpS p x.name ≤ 0 ∧ x.name ≠ p := by
  have := (atN_spec ha p).2.1 k x hk hx
  refine ⟨fun h => ?_, cmp_ne this⟩
  have h2 := ord_str.neg x.name p
  omega
theorem at_has {gs : List G} {p : Str} {x : G} (hx : gs[atN p gs]? = some x) (hh : hasN p gs = true) : cmpS p x.name ≤ 0 ∧ x.name = p := by
  obtain ⟨y, hy, e⟩ := has_at hh
  obtain rfl : x = y := by rw [hx] at hy; simpa using hy
  exact ⟨by rw [e, (ord_str.zero p p).2 rfl]; omega, e⟩
theorem at_no {gs : List G} {p : Str} {x : G} (ha : AscN gs) (hx : gs[atN p gs]? = some x) (hh : hasN p gs = false) : cmpS p x.name ≤ 0 ∧ x.name ≠ p := by
  have h1 := (atN_spec ha p).2.2 _ x (Nat.le_refl _) hx
  have h2 := ord_str.neg x.name p
  refine ⟨by omega, no_at ha hh x (List.mem_of_getElem? hx)⟩
theorem at_high {gs : List G} {p : Str} {k : Nat} {x : G} (ha : AscN gs) (hx : gs[k]? = some x) (hk : atN p gs < k) : x.name ≠ p := by
  have hkl := (List.getElem?_eq_some_iff.1 hx).1
  obtain ⟨y, hy⟩ := get_some (show atN p gs < gs.length by omega)
  have h1 := ha _ _ y x hk hy hx
  have h2 := (atN_spec ha p).2.2 _ y (Nat.le_refl _) hy
  have h3 := ord_str.neg y.name p
  intro e
  rw [e] at h1
  omega
theorem find_neg {gs : List G} (ha : AscN gs) (p : Str) : (hasN p gs = true ∧ findN p gs = (atN p gs : Int)) ∨ (hasN p gs = false ∧ findN p gs = -1) := by
  rcases find_cases ha p with ⟨h1, h2, _⟩ | ⟨h1, h2, _⟩
  · exact .inl ⟨h1, h2⟩
  · exact .inr ⟨h1, h2⟩
end Go.Proofs.YtbellobjajnlkaaDoor

namespace Go.Proofs.YtbellobjajnlkaaDoor
open Go.RowKit

/-- A row of jobs and a row of groups never lie in one block. -/
theorem own_types {w : World} {H H' : Nat} {v v' : Value} {l : List JRef} {l' : List Grp} (h : Own jRefE 2 29 w H v l) (h' : Own grpE 4 45 w H' v' l') : ∀ g, v.ownBlock = some g → v'.ownBlock ≠ some g := by
  intro g hg hg'
  rcases h.2 with ⟨rfl, _⟩ | ⟨b, cap, cur, rfl, _, hb, _⟩
  · cases hg
  · rcases h'.2 with ⟨rfl, _⟩ | ⟨b', cap', cur', rfl, _, hb', _⟩
    · cases hg'
    · simp only [Value.ownBlock, Option.some.injEq] at hg hg'
      subst hg
      subst hg'
      rw [hb] at hb'
      simp at hb'
theorem OwnGL.ins {w w' : World} {H k : Nat} {v v' : Value} {l : List Grp} {x : Grp} (h : OwnGL w H v l) (ho : Own grpE 4 45 w' H v' (l.take k ++ x :: l.drop k)) (hg : w.grownBy w' v.ownBlock) (hx : OwnG w' H x) (hn : blkG x = none) : OwnGL w' H v' (l.take k ++ x :: l.drop k) := by
  have hlab : ∀ y ∈ l, OwnG w' H y := fun y hy => Own.grown (h.labs y hy).1 hg fun g hg e => (h.labs y hy).2 g hg e.symm
  have hall : ∀ y ∈ l.take k ++ x :: l.drop k, OwnG w' H y := fun y hy => by
    rcases List.mem_append.1 hy with h1 | h1
    · exact hlab y (List.mem_of_mem_take h1)
    · rcases List.mem_cons.1 h1 with rfl | h2
      · exact hx
      · exact hlab y (List.mem_of_mem_drop h2)
  refine ⟨ho, fun y hy => ⟨hall y hy, own_types (hall y hy) ho⟩, ?_⟩
  have hp := h.apart
  rw [← List.take_append_drop k l, List.pairwise_append] at hp
  rw [List.pairwise_append, List.pairwise_cons]
  refine ⟨hp.1, ⟨fun b _ g hg => (by rw [hn] at hg; cases hg), hp.2.1⟩, fun a ha b hb => ?_⟩
  rcases List.mem_cons.1 hb with rfl | h2
  · intro g _
    rw [hn]
    exact nofun
  · exact hp.2.2 a ha b h2
/-- A group stored over another. -/
def put4 (w : World) (g k : Nat) (y : Grp) : World := (((w.setCell ⟨g, k * 4, none⟩ (.string y.name.1)).setCell ⟨g, k * 4 + 1, none⟩ (.string y.run.1)).setCell ⟨g, k * 4 + 2, none⟩ (.string y.job.1)).setCell ⟨g, k * 4 + 3, none⟩ (.slice y.waitA y.wait.length y.waitC)
theorem put4_size (w : World) (g k : Nat) (y : Grp) : (put4 w g k y).heap.size = w.heap.size := by unfold put4; simp only [World.size_setCell]
theorem put4_below {w : World} {g k B : Nat} {y : Grp} (hg : B ≤ g) : Below B w (put4 w g k y) := (((((Below.refl _ _).setCell hg _).setCell hg _).setCell hg _).setCell hg _)
theorem set_cellN {α : Type} {enc : α → List Value} {k : Nat} (hk : ∀ x : α, (enc x).length = k) {e : TypeId} {w : World} {H g cap i n : Nat} {l : List α} (j : Nat) {x y : α} {u : Value} (hown : Own enc k e w H (.slice (some ⟨g, 0, none⟩) n cap) l) (hn : l.length = n) (hx : l[i]? = some x) (hj : j < k) (hy : enc y = (enc x).set j u) :
    Own enc k e (w.setCell ⟨g, i * k + j, none⟩ u) H (.slice (some ⟨g, 0, none⟩) n cap) (l.set i y) := by
  subst hn
  exact set_cell hk hown hx hj hy
theorem put4_row {w : World} {H g cap k : Nat} {l : List Grp} {x y : Grp} (hown : Own grpE 4 45 w H (.slice (some ⟨g, 0, none⟩) l.length cap) l) (hx : l[k]? = some x) : Own grpE 4 45 (put4 w g k y) H (.slice (some ⟨g, 0, none⟩) (l.set k y).length cap) (l.set k y) := by
  have hk := (List.getElem?_eq_some_iff.1 hx).1
  have h0 := set_cellN grpE_len 0 (y := ({ x with name := y.name } : Grp)) (u := .string y.name.1) hown rfl hx (by omega) rfl
  have h1 := set_cellN grpE_len 1 (x := ({ x with name := y.name } : Grp)) (y := ({ x with name := y.name, run := y.run } : Grp)) (u := .string y.run.1) h0 (by rw [List.length_set]) (List.getElem?_set_self hk) (by omega) rfl
  have h2 := set_cellN grpE_len 2 (x := ({ x with name := y.name, run := y.run } : Grp)) (y := ({ x with name := y.name, run := y.run, job := y.job } : Grp)) (u := .string y.job.1) h1 (by rw [List.length_set, List.length_set]) (by rw [List.set_set]; exact List.getElem?_set_self hk) (by omega) rfl
  have h3 := set_cellN grpE_len 3 (x := ({ x with name := y.name, run := y.run, job := y.job } : Grp)) (y := y) (u := .slice y.waitA y.wait.length y.waitC) h2 (by rw [List.length_set, List.length_set, List.length_set]) (by rw [List.set_set, List.set_set]; exact List.getElem?_set_self hk) (by omega) rfl
  rw [List.length_set]
  simp only [List.set_set, Nat.add_zero] at h3
  exact h3
theorem Own.put4 {α : Type} {enc : α → List Value} {j : Nat} {e : TypeId} {w : World} {b : Nat} {v : Value} {l : List α} (h : Own enc j e w b v l) {g k : Nat} {y : Grp} (hg : ∀ q, v.ownBlock = some q → q ≠ g) : Own enc j e (put4 w g k y) b v l :=
  (((h.setCell (p := ⟨g, _, none⟩) hg _).setCell (p := ⟨g, _, none⟩) hg _).setCell (p := ⟨g, _, none⟩) hg _).setCell (p := ⟨g, _, none⟩) hg _
theorem OwnGL.put {w w' : World} {H g cap k n : Nat} {l : List Grp} {x y : Grp} (h : OwnGL w H (.slice (some ⟨g, 0, none⟩) n cap) l) (hx : l[k]? = some x) (hb : But w.heap.size (blkG x) w w') (hy : OwnG w' H y) (hyb : blkG y = blkG x ∨ ∀ q, blkG y = some q → w.heap.size ≤ q) :
    OwnGL (put4 w' g k y) H (.slice (some ⟨g, 0, none⟩) (l.set k y).length cap) (l.set k y) := by
  have hk := (List.getElem?_eq_some_iff.1 hx).1
  have hxm := List.mem_of_getElem? hx
  have hn : n = l.length := by
    obtain ⟨A, c, e, _⟩ := h.row.form
    simp at e
    exact e.2.1
  subst hn
  have hgw : g < w.heap.size := (h.row.lt g rfl).2
  have hrow : Own grpE 4 45 w' H (.slice (some ⟨g, 0, none⟩) l.length cap) l := Own.far h.row fun q hq => by
    simp only [Value.ownBlock, Option.some.injEq] at hq
    subst hq
    exact hb.block g hgw fun e => (h.labs x hxm).2 g e.symm rfl
  have hset := put4_row (y := y) hrow hx
  have hap := List.pairwise_iff_getElem.1 h.apart
  have hidx : ∀ j z, l[j]? = some z → j ≠ k → ∀ q, blkG z = some q → blkG x ≠ some q ∧ blkG y ≠ some q := fun j z hz hj q hq => by
    obtain ⟨hjl, ez⟩ := List.getElem?_eq_some_iff.1 hz
    obtain ⟨_, ex⟩ := List.getElem?_eq_some_iff.1 hx
    have h1 : blkG x ≠ some q := by
      rcases Nat.lt_or_gt_of_ne hj with hlt | hlt
      · have := hap j k hjl hk hlt q
        rw [ez, ex] at this
        exact this hq
      · have := hap k j hk hjl hlt q
        rw [ez, ex] at this
        exact fun e => this e hq
    refine ⟨h1, ?_⟩
    rcases hyb with e | e
    · rw [e]; exact h1
    · intro e2
      have := e q e2
      have := (OwnG.lt (h.labs z (List.mem_of_getElem? hz)).1 hq).2
      omega
  have hall : ∀ z ∈ l.set k y, OwnG (put4 w' g k y) H z := fun z hz => by
    obtain ⟨j, hj⟩ := List.getElem?_of_mem hz
    rw [List.getElem?_set] at hj
    split at hj
    · obtain rfl : y = z := by simp at hj; first | exact hj | exact hj.2
      exact Own.put4 hy fun q hq e => own_types hy hrow q hq (by rw [e]; rfl)
    · rename_i hjk
      have hjk : j ≠ k := fun e => hjk e.symm
      have hz2 := (h.labs z (List.mem_of_getElem? hj))
      exact Own.put4 (hz2.1.but hb fun q hq => (hidx j z hj hjk q hq).1) fun q hq e => hz2.2 q hq (by rw [e]; rfl)
  refine ⟨hset, fun z hz => ⟨hall z hz, own_types (hall z hz) hset⟩, ?_⟩
  rw [List.pairwise_iff_getElem]
  intro i j hi hj hij q hq
  rw [List.length_set] at hi hj
  rw [List.getElem_set] at hq ⊢
  by_cases hik : k = i
  · subst hik
    rw [if_pos rfl] at hq
    rw [if_neg (by omega)]
    exact fun e => (hidx j _ (List.getElem?_eq_getElem hj) (by omega) q e).2 hq
  · rw [if_neg hik] at hq
    by_cases hjk : k = j
    · subst hjk
      rw [if_pos rfl]
      exact (hidx i _ (List.getElem?_eq_getElem hi) (by omega) q hq).2
    · rw [if_neg hjk]
      exact hap i j hi hj hij q hq
/-- A group joined, whatever the policy. -/
theorem joined_any (x : Grp) (r : JRef) (p : Int) (H : Nat) (w : World) (ho : OwnG w H x) (hH : H ≤ w.heap.size) (hn : x.wait.length ≤ 1000000) :
    Calls Tryd.prog 45 #[(.agg #[.string x.name.1, .string x.run.1, .string x.job.1, .slice x.waitA x.wait.length x.waitC]), .agg #[.string r.run.1, .string r.job.1], .int .i64 p] w (fun e w' => ∃ (y : Grp) (A : Option Addr) (C : Nat), e = .returned (.tuple #[(.agg #[.string y.name.1, .string y.run.1, .string y.job.1, .slice y.waitA y.wait.length y.waitC]), .agg #[.bool (joinRun (x).g), .slice A (joinCan (x).g p).length C]]) ∧ y.g = joinG (x).g r p ∧ OwnG w' H y ∧ (blkG y = blkG x ∨ ∀ g, blkG y = some g → w.heap.size ≤ g) ∧ Own jRefE 2 29 w' w.heap.size (.slice A (joinCan (x).g p).length C) (joinCan (x).g p) ∧ Below H w w' ∧ But w.heap.size (blkG x) w w') := by
  by_cases h1 : x.g.rn = zR ∧ x.g.wait = []
  · exact joined_new x r p H w ho hH h1.1 h1.2
  · by_cases h2 : p = 0
    · subst h2
      exact joined_queue x r H w ho hH hn h1
    · by_cases h3 : p = 2 ∧ x.g.rn ≠ zR
      · obtain ⟨rfl, h3⟩ := h3
        exact joined_replace x r H w ho hH hn h1 h3
      · exact joined_cancel x r p H w ho hH hn h1 h2 h3
theorem OwnGL.setCell {w : World} {H : Nat} {v : Value} {l : List Grp} (h : OwnGL w H v l) {p : Addr} (hp : p.block < H) (u : Value) : OwnGL (w.setCell p u) H v l :=
  ⟨h.row.setCell (fun q hq e => by have := (h.row.lt q hq).1; omega) _, fun x hx => ⟨Own.setCell (h.labs x hx).1 (fun q hq e => by have := (OwnG.lt (h.labs x hx).1 hq).1; omega) _, (h.labs x hx).2⟩, h.apart⟩
theorem OwnGL.drew {w : World} {H : Nat} {v : Value} {l : List Grp} (h : OwnGL w H v l) : OwnGL w.drew H v l := h.all (Below.refl _ _).drew
/-- A group stored over another, and the two cells of a result behind it. -/
def fin6 (w : World) (g k : Nat) (y : Grp) (b : Nat) (u0 u1 : Value) : World := ((put4 w g k y).setCell ⟨b, 0, none⟩ u0).setCell ⟨b, 1, none⟩ u1
theorem fin6_cells {w : World} {g k b : Nat} {y : Grp} {u0 u1 t0 t1 : Value} (hne : b ≠ g) (h0 : w.cell? ⟨b, 0, none⟩ = some t0) (h1 : w.cell? ⟨b, 1, none⟩ = some t1) : (fin6 w g k y b u0 u1).cell? ⟨b, 0, none⟩ = some u0 ∧ (fin6 w g k y b u0 u1).cell? ⟨b, 1, none⟩ = some u1 := by
  unfold fin6 put4
  refine ⟨?_, ?_⟩ <;> simp [World.cell?_setCell_other, World.cell?_setCell_same', h0, h1]
theorem fin6_below {w : World} {g k b B : Nat} {y : Grp} {u0 u1 : Value} (hg : B ≤ g) (hb : B ≤ b) : Below B w (fin6 w g k y b u0 u1) := ((put4_below hg).setCell hb _).setCell hb _
theorem fin6_size (w : World) (g k b : Nat) (y : Grp) (u0 u1 : Value) : (fin6 w g k y b u0 u1).heap.size = w.heap.size := by unfold fin6; rw [World.size_setCell, World.size_setCell, put4_size]
theorem fin6_row {α : Type} {enc : α → List Value} {j : Nat} {e : TypeId} {w : World} {B : Nat} {v : Value} {l : List α} (h : Own enc j e w B v l) {g k b : Nat} {y : Grp} {u0 u1 : Value} (hg : ∀ q, v.ownBlock = some q → q ≠ g ∧ q ≠ b) : Own enc j e (fin6 w g k y b u0 u1) B v l :=
  ((Own.put4 h fun q hq => (hg q hq).1).setCell (p := ⟨b, _, none⟩) (fun q hq => (hg q hq).2) _).setCell (p := ⟨b, _, none⟩) (fun q hq => (hg q hq).2) _
theorem fin6_own {w : World} {H g k b : Nat} {y : Grp} {v u0 u1 : Value} {l : List Grp} (h : OwnGL (put4 w g k y) H v l) (hb : b < H) : OwnGL (fin6 w g k y b u0 u1) H v l := (h.setCell hb _).setCell hb _
theorem but_block {w w' : World} {B : Nat} {row : Option Nat} (h : But B row w w') {g : Nat} (hg : g < B) (hn : some g ≠ row) : (∀ o, w'.cell? ⟨g, o, none⟩ = w.cell? ⟨g, o, none⟩) ∧ (∀ o, w'.frozen? ⟨g, o, none⟩ = w.frozen? ⟨g, o, none⟩) :=
  ⟨fun _ => World.cell?_of_block (h.block g hg hn), fun _ => World.frozen?_of_block (h.block g hg hn)⟩
end Go.Proofs.YtbellobjajnlkaaDoor
