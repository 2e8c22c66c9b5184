/-
  The walks of shards: the shards while the reference fills them (plain).
-/
import Derived.Test.YtdjepnilmgembaaGreatDoorShw11

namespace Go.Proofs.YtdjepnilmgembaaGreatDoor
open Go.RowKit

theorem own_len {α : Type} {enc : α → List Value} {k : Nat} {e : TypeId} {w : World} {H n c : Nat} {A : Option Addr} {l : List α} (h : Own enc k e w H (.slice A n c) l) : l.length = n := by
  obtain ⟨_, _, e1, _⟩ := h.form
  simp only [Value.slice.injEq] at e1
  exact e1.2.1.symm
theorem own_down {α : Type} {enc : α → List Value} {k : Nat} {e : TypeId} {w : World} {b b' : Nat} {v : Value} {l : List α} (h : Own enc k e w b v l) (hb : b' ≤ b) : Own enc k e w b' v l := by
  rcases h with ⟨h1, h2 | ⟨g, c, cur, h3, h4, h5⟩⟩
  · exact ⟨h1, .inl h2⟩
  · exact ⟨h1, .inr ⟨g, c, cur, h3, Nat.le_trans hb h4, h5⟩⟩
/-- The shards while the reference fills them. -/
structure StR (w1 wr : World) (go gl : Nat) (A : Option Addr) (C N : Nat) (P : List (List Str)) (D : List Int) (lf : List Str) (O : List SlR) : Prop where
  out : Own slE 1 22 wr w1.heap.size (.slice (some ⟨go, 0, none⟩) N N) O
  lds : Own zE 1 3 wr w1.heap.size (.slice (some ⟨gl, 0, none⟩) N N) D
  own : OwnT slV SlR.l wr w1.heap.size (⟨A, C, lf⟩ :: O)
  eq : O.map SlR.l = P
  bel : Below w1.heap.size w1 wr
section
variable {w1 wr : World} {go gl : Nat} {A : Option Addr} {C N : Nat} {P : List (List Str)} {D : List Int} {lf : List Str} {O : List SlR}
theorem StR.olen (h : StR w1 wr go gl A C N P D lf O) : O.length = N := own_len h.out
theorem StR.dlen (h : StR w1 wr go gl A C N P D lf O) : D.length = N := own_len h.lds
theorem StR.row (h : StR w1 wr go gl A C N P D lf O) : Own sE 1 9 wr w1.heap.size (.slice A lf.length C) lf := h.own.each _ List.mem_cons_self
theorem StR.all {w' : World} (h : StR w1 wr go gl A C N P D lf O) (hb : Below wr.heap.size wr w') : StR w1 w' go gl A C N P D lf O :=
  ⟨h.out.all hb, h.lds.all hb, h.own.all hb, h.eq, h.bel.trans (hb.mono h.bel.size)⟩
theorem StR.drew (h : StR w1 wr go gl A C N P D lf O) : StR w1 wr.drew go gl A C N P D lf O := ⟨h.out, h.lds, ⟨h.own.each, h.own.apart⟩, h.eq, h.bel.drew⟩
/-- A test put behind those of a shard. -/
theorem StR.put (h : StR w1 wr go gl A C N P D lf O) {b : Nat} {y : SlR} {x : Str} {ob : Obj} {w6 : World} {A6 : Option Addr} {c6 : Nat} (hy : O[b]? = some y) (ho6 : Own sE 1 9 w6 w1.heap.size (.slice A6 (y.l.length + 1) c6) (y.l ++ [x])) (hg6 : (wr.alloc ob).grownBy w6 (slV y).ownBlock)
    (hat6 : (Value.slice A6 (y.l.length + 1) c6).ownBlock = (slV y).ownBlock ∨ (Value.slice A6 (y.l.length + 1) c6).ownBlock = some (wr.alloc ob).heap.size) :
    StR w1 (w6.setCell ⟨go, b, none⟩ (.slice A6 (y.l.length + 1) c6)) go gl A C N (P.set b (y.l ++ [x])) D lf (O.set b ⟨A6, c6, y.l ++ [x]⟩) := by
  have hyo := h.own.each y (List.mem_cons_of_mem _ (List.mem_of_getElem? hy))
  have hgo := (h.out.lt go rfl).1
  have hz := h.bel.size
  have hout6 : Own slE 1 22 w6 w1.heap.size (.slice (some ⟨go, 0, none⟩) N N) O := (h.out.alloc ob).grown hg6 fun q hq e => own_apart hyo h.out (by decide) q e.symm hq
  have hlds6 : Own zE 1 3 w6 w1.heap.size (.slice (some ⟨gl, 0, none⟩) N N) D := (h.lds.alloc ob).grown hg6 fun q hq e => own_apart hyo h.lds (by decide) q e.symm hq
  have hown6 := (h.own.all (w' := wr.alloc ob) ((Below.refl _ _).alloc (Nat.le_refl _) ob)).set (k := b + 1) (x := y) (y := (⟨A6, c6, y.l ++ [x]⟩ : SlR)) (by rw [List.getElem?_cons_succ]; exact hy) (by show Own sE 1 9 w6 _ (.slice A6 (y.l ++ [x]).length c6) (y.l ++ [x]); rw [List.length_append, List.length_singleton]; exact ho6) hg6 (by show (Value.slice A6 (y.l ++ [x]).length c6).ownBlock = _ ∨ (Value.slice A6 (y.l ++ [x]).length c6).ownBlock = _; rw [List.length_append, List.length_singleton]; exact hat6)
  have hset := set_cellN slE_len 0 (y := (⟨A6, c6, y.l ++ [x]⟩ : SlR)) (u := .slice A6 (y.l.length + 1) c6) hout6 h.olen hy (by omega) (by simp [slE])
  simp only [Nat.mul_one, Nat.add_zero] at hset
  refine ⟨hset, hlds6.setCell (fun q hq e => own_apart hlds6 hout6 (by decide) q hq (by rw [e]; rfl)) _, (by rw [List.set_cons_succ] at hown6; exact hown6.rowCell (p := ⟨go, b, none⟩) hout6 (by decide) _), by rw [List.map_set, h.eq], ?_⟩
  exact ((h.bel.alloc hz ob).grown hg6 (by simp; omega) (fun q hq => (hyo.lt q hq).1)).setCell hgo _
/-- A shard's load set. -/
theorem StR.load (h : StR w1 wr go gl A C N P D lf O) {b : Nat} {d : Int} (d' : Int) (hd : D[b]? = some d) : StR w1 (wr.setCell ⟨gl, b, none⟩ (.int .i64 d')) go gl A C N P (D.set b d') lf O := by
  have hset := set_cellN zE_len 0 (x := d) (y := d') (u := .int .i64 d') h.lds h.dlen hd (by omega) rfl
  simp only [Nat.mul_one, Nat.add_zero] at hset
  exact ⟨h.out.setCell (fun q hq e => own_apart h.out h.lds (by decide) q hq (by rw [e]; rfl)) _, hset, h.own.rowCell (p := ⟨gl, b, none⟩) h.lds (by decide) _, h.eq, h.bel.setCell (h.lds.lt gl rfl).1 _⟩
/-- Another list of tests that are left, in new memory. -/
theorem StR.left {w' : World} {A' : Option Addr} {C' : Nat} {lf' : List Str} (h : StR w1 wr go gl A C N P D lf O) (ho : Own sE 1 9 w' wr.heap.size (.slice A' lf'.length C') lf') (hb : Below wr.heap.size wr w') : StR w1 w' go gl A' C' N P D lf' O := by
  have hz := h.bel.size
  refine ⟨h.out.all hb, h.lds.all hb, ⟨fun x hx => ?_, ?_⟩, h.eq, h.bel.trans (hb.mono hz)⟩
  · rcases List.mem_cons.1 hx with rfl | hx
    · exact own_down ho hz
    · exact (h.own.each x (List.mem_cons_of_mem _ hx)).all hb
  · rw [List.pairwise_cons]
    refine ⟨fun y hy g hg hgy => ?_, (List.pairwise_cons.1 h.own.apart).2⟩
    have h1 := (ho.lt g hg).1
    have h2 := ((h.own.each y (List.mem_cons_of_mem _ hy)).lt g hgy).2
    omega
/-- The start. -/
theorem StR.start (ho : Own slE 1 22 wr w1.heap.size (.slice (some ⟨go, 0, none⟩) N N) (List.replicate N ⟨none, 0, []⟩)) (hl : Own zE 1 3 wr w1.heap.size (.slice (some ⟨gl, 0, none⟩) N N) (List.replicate N 0)) (hs : Own sE 1 9 wr w1.heap.size (.slice A lf.length C) lf) (hb : Below w1.heap.size w1 wr) :
    StR w1 wr go gl A C N (List.replicate N []) (List.replicate N 0) lf (List.replicate N ⟨none, 0, []⟩) := by
  refine ⟨ho, hl, ⟨fun x hx => ?_, ?_⟩, by rw [List.map_replicate], hb⟩
  · rcases List.mem_cons.1 hx with rfl | hx
    · exact hs
    · obtain ⟨_, rfl⟩ := List.mem_replicate.1 hx
      exact Own.nil _ _ _
  · rw [List.pairwise_cons]
    refine ⟨fun y hy g _ hgy => ?_, ?_⟩
    · obtain ⟨_, rfl⟩ := List.mem_replicate.1 hy
      cases hgy
    · rw [List.pairwise_iff_getElem]
      intro i j hi hj _ g hg
      rw [List.getElem_replicate] at hg
      cases hg
end
theorem flat_z (n : Nat) : (List.replicate n (0 : Int)).flatMap zE = List.replicate n (.int .i64 0) := by
  induction n with
  | zero => rfl
  | succ n ih => rw [List.replicate_succ, List.flatMap_cons, ih, List.replicate_succ]; rfl
theorem own_new_sl {W : World} {base g n : Nat} (hg : g = W.heap.size) (hb : base ≤ W.heap.size) (hn : n ≤ 1000) : Own slE 1 22 (W.alloc (.cells (madeCells #[.slice none 0 0] n) 22)) base (.slice (some ⟨g, 0, none⟩) n n) (List.replicate n (⟨none, 0, []⟩ : SlR)) := by
  subst hg
  have h := Own.lit (w := W) (enc := slE) (e := 22) (l := List.replicate n (⟨none, 0, []⟩ : SlR)) (base := base) (madeCells #[.slice none 0 0] n) hb (by rw [List.length_replicate]; simp [maxLen]; omega) (by rw [toList_madeCells_one, flat_sl]) slE_len
  rwa [List.length_replicate] at h
theorem own_new_z {W : World} {base g n : Nat} (hg : g = W.heap.size) (hb : base ≤ W.heap.size) (hn : n ≤ 1000) : Own zE 1 3 (W.alloc (.cells (madeCells #[.int .i64 0] n) 3)) base (.slice (some ⟨g, 0, none⟩) n n) (List.replicate n (0 : Int)) := by
  subst hg
  have h := Own.lit (w := W) (enc := zE) (e := 3) (l := List.replicate n (0 : Int)) (base := base) (madeCells #[.int .i64 0] n) hb (by rw [List.length_replicate]; simp [maxLen]; omega) (by rw [toList_madeCells_one, flat_z]) zE_len
  rwa [List.length_replicate] at h
theorem own_new_s {W : World} {base g : Nat} (hg : g = W.heap.size) (hb : base ≤ W.heap.size) : Own sE 1 9 (W.alloc (.cells #[] 9)) base (.slice (some ⟨g, 0, none⟩) 0 0) [] := by
  subst hg
  exact Own.lit (enc := sE) (l := []) #[] hb (by simp) (by simp) sE_len
/-- The tests behind a place, whatever the address of none. -/
theorem rw_behind {w : World} {B g i : Nat} {l : List Str} {A : Option Addr} (h : Rw sE 1 w B (some ⟨g, 0, none⟩) l) (hA : i < l.length → A = some ⟨g, i, none⟩) : Rw sE 1 w B A (l.drop i) := fun hn => by
  rw [List.length_drop] at hn
  obtain ⟨q, o, e, hb, hc⟩ := h (by omega)
  simp only [Option.some.injEq, Addr.mk.injEq, and_true] at e
  obtain ⟨rfl, rfl⟩ := e
  refine ⟨g, i, hA (by omega), hb, fun j x hx u v hv => ?_⟩
  rw [List.getElem?_drop] at hx
  have := hc (i + j) x hx u v hv
  rw [Nat.zero_add, Nat.mul_one] at this
  rw [Nat.mul_one]
  exact this
theorem rw_front {w : World} {B i : Nat} {l : List Str} {A : Option Addr} (h : Rw sE 1 w B A l) : Rw sE 1 w B A (l.take i) := fun hn => by
  rw [List.length_take] at hn
  obtain ⟨q, o, e, hb, hc⟩ := h (by omega)
  refine ⟨q, o, e, hb, fun j x hx u v hv => ?_⟩
  rw [List.getElem?_take] at hx
  split at hx
  · exact hc j x hx u v hv
  · cases hx
/-- One test more has been put into the least shard. -/
theorem fill_put {t : Str → Int} {N : Nat} {ord : List Str} {k : Nat} {x : Str} {b : Bin} (hx : ord[k]? = some x) (hb : (fillB t N (ord.take k))[leastB (fillB t N (ord.take k))]? = some b) :
    (fillB t N (ord.take (k + 1))).map (·.1) = ((fillB t N (ord.take k)).map (·.1)).set (leastB (fillB t N (ord.take k))) (b.1 ++ [x]) ∧ (fillB t N (ord.take (k + 1))).map (·.2) = ((fillB t N (ord.take k)).map (·.2)).set (leastB (fillB t N (ord.take k))) (b.2 + t x) := by
  rw [List.take_add_one, hx]
  rw [Option.toList_some, fill_snoc]
  unfold stepB
  rw [get_bang hb]
  exact ⟨by rw [List.map_set], by rw [List.map_set]⟩
theorem least_in {t : Str → Int} {N : Nat} (hN : 0 < N) (l : List Str) : leastB (fillB t N l) < N := by
  have hne : fillB t N l ≠ [] := fun e => by have := fill_len t N l; rw [e] at this; simp at this; omega
  obtain ⟨b, hb, _⟩ := least_spec hne
  have := (List.getElem?_eq_some_iff.1 hb).1
  rwa [fill_len] at this
theorem sorted_next {P : List (List Str)} {k : Nat} {p : List Str} {O : List SlR} {y : SlR} (h : O.map SlR.l = (P.take k).map srt ++ P.drop k) (hp : P[k]? = some p) (hy : y.l = srt p) : (O.set k y).map SlR.l = (P.take (k + 1)).map srt ++ P.drop (k + 1) := by
  have hk := (List.getElem?_eq_some_iff.1 hp).1
  rw [List.map_set, h, hy, List.take_add_one, hp]
  have e : P.drop k = p :: P.drop (k + 1) := by rw [List.drop_eq_getElem_cons hk, (List.getElem?_eq_some_iff.1 hp).2]
  rw [e, List.set_append_right _ _ (by rw [List.length_map, List.length_take]; omega)]
  rw [show k - ((P.take k).map srt).length = 0 by rw [List.length_map, List.length_take]; omega]
  simp
theorem sorted_at {P : List (List Str)} {k : Nat} {p : List Str} {O : List SlR} (h : O.map SlR.l = (P.take k).map srt ++ P.drop k) (hp : P[k]? = some p) : ∃ y, O[k]? = some y ∧ y.l = p := by
  have hk := (List.getElem?_eq_some_iff.1 hp).1
  have e : (O.map SlR.l)[k]? = some p := by
    rw [h, List.getElem?_append_right (by rw [List.length_map, List.length_take]; omega), List.getElem?_drop]
    rw [show k + (k - ((P.take k).map srt).length) = k by rw [List.length_map, List.length_take]; omega]
    exact hp
  rw [List.getElem?_map, Option.map_eq_some_iff] at e
  exact e
end Go.Proofs.YtdjepnilmgembaaGreatDoor
