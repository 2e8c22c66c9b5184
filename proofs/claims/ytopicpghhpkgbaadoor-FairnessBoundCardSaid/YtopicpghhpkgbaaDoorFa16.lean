/-
  Plain laws of fairness: how far two waiting projects' services can be apart.
-/
import Derived.Test.YtopicpghhpkgbaaDoorFa15
namespace Go.Proofs.YtopicpghhpkgbaaDoor
open Go.RowKit
variable {l cur s : List Share}

theorem set_same {α : Type} {l : List α} {k : Nat} {v : α} (h : l[k]? = some v) : l.set k v = l := by
  obtain ⟨hk, rfl⟩ := List.getElem?_eq_some_iff.1 h
  exact List.set_getElem_self hk
theorem set_at {α : Type} {l : List α} {k i : Nat} {z x : α} (h : (l.set k z)[i]? = some x) : (i = k ∧ x = z ∧ k < l.length) ∨ (i ≠ k ∧ l[i]? = some x) := by
  rw [List.getElem?_set] at h
  split at h
  · rename_i e
    split at h
    · rename_i hk; exact Or.inl ⟨e.symm, by simpa using h.symm, hk⟩
    · cases h
  · rename_i e; exact Or.inr ⟨fun e2 => e e2.symm, h⟩
theorem asc_map (h : l.map (·.proj) = cur.map (·.proj)) (ha : AscP l) : AscP cur := by
  intro i j x y hij hx hy
  have e : ∀ (i : Nat) (x : Share), cur[i]? = some x → ∃ z, l[i]? = some z ∧ z.proj = x.proj := fun i x hx => by
    have h1 : (cur.map (·.proj))[i]? = some x.proj := by rw [List.getElem?_map, hx]; rfl
    rw [← h, List.getElem?_map] at h1
    rcases hz : l[i]? with _ | z
    · rw [hz] at h1; cases h1
    · rw [hz] at h1; exact ⟨z, rfl, by simpa using h1⟩
  obtain ⟨x', hx', ex⟩ := e i x hx
  obtain ⟨y', hy', ey⟩ := e j y hy
  rw [← ex, ← ey]
  exact ha i j x' y' hij hx' hy'
theorem valid_of (h1 : l.length ≤ 64) (h2 : ∀ x ∈ l, okS x = true) (h3 : AscP l) : validS l = true := by
  unfold validS
  rw [Bool.and_eq_true, List.all_eq_true, decide_eq_true_eq]
  refine ⟨h1, fun k hk => ?_⟩
  have hk := List.mem_range.1 hk
  obtain ⟨x, hx⟩ := get_some hk
  rcases k with _ | k
  · rw [okAt_zero hx]; exact h2 x (List.mem_of_getElem? hx)
  · obtain ⟨y, hy⟩ := get_some (show k < l.length by omega)
    rw [okAt_succ hx hy, h2 x (List.mem_of_getElem? hx), decide_eq_true (h3 k (k + 1) y x (by omega) hy hx)]; rfl
theorem findP_map {p : Str} (h : l.map (·.proj) = cur.map (·.proj)) : findP p l = findP p cur := by
  have hl : l.length = cur.length := by simpa using congrArg List.length h
  have e : ∀ l : List Share, l.findIdx (isProj p) = (l.map (·.proj)).findIdx (fun q => q.1.toList == p.1.toList) := fun l => by rw [List.findIdx_map]; rfl
  unfold findP
  rw [e l, e cur, h, hl]
theorem chE_zero {p : Str} {co : Int} (h : chE l p co = 0) : (1 ≤ co ∧ co ≤ 1000000) ∧ 0 ≤ findP p l ∧ l[(findP p l).toNat]!.served.1 + co ≤ 1125899906842624 := by
  unfold chE at h
  split at h
  · omega
  · split at h
    · omega
    · split at h
      · omega
      · split at h
        · omega
        · omega

/-- The shares now, and the largest cost of each project. -/
structure Inv (l cur : List Share) (lg : List I64) : Prop where
  lln : lg.length = l.length
  val : validS cur = true
  projs : l.map (·.proj) = cur.map (·.proj)
  wts : l.map (·.weight) = cur.map (·.weight)
  rng : ∀ (i : Nat) (n : I64), lg[i]? = some n → 0 ≤ n.1 ∧ n.1 ≤ 1000000
  gap : ∀ (i k : Nat) (x y a b : Share) (n : I64), l[i]? = some x → l[k]? = some y → cur[i]? = some a → cur[k]? = some b → lg[i]? = some n → a.served.1 * b.weight.1 - b.served.1 * a.weight.1 ≤ max (x.served.1 * y.weight.1 - y.served.1 * x.weight.1) (n.1 * b.weight.1)
variable {lg : List I64}
theorem Inv.len (h : Inv l cur lg) : cur.length = l.length := by simpa using (congrArg List.length h.projs).symm
theorem Inv.start (hv : validS l = true) : Inv l l (List.replicate l.length ⟨0, by omega⟩) where
  lln := by simp
  val := hv
  projs := rfl
  wts := rfl
  rng i n h := by
    have := List.mem_of_getElem? h
    rw [List.mem_replicate] at this
    rw [this.2]; simp
  gap i k x y a b n hx hy ha hb _ := by
    rw [hx] at ha
    rw [hy] at hb
    obtain rfl : x = a := by simpa using ha
    obtain rfl : y = b := by simpa using hb
    exact Int.le_max_left _ _
theorem Inv.weight (h : Inv l cur lg) {i : Nat} {x a : Share} (hx : l[i]? = some x) (ha : cur[i]? = some a) : a.weight = x.weight := by
  have h1 : (l.map (·.weight))[i]? = some x.weight := by rw [List.getElem?_map, hx]; rfl
  rw [h.wts, List.getElem?_map, ha] at h1
  simpa using h1

theorem Inv.step (h : Inv l cur lg) {b : Share} {k : Nat} (hk : cur[k]? = some b) (hmin : ∀ y ∈ cur, befB y b = false) {co : Int} (h1 : 1 ≤ co) {V : I64} (hV : b.served.1 + co = V.1) (hV2 : V.1 ≤ 1125899906842624) {n m : I64} (hn : lg[k]? = some n) (hm1 : n.1 ≤ m.1) (hm2 : co ≤ m.1) (hm3 : m.1 ≤ 1000000) :
    Inv l (cur.set k ⟨b.proj, b.weight, V⟩) (lg.set k m) := by
  have hkl := (List.getElem?_eq_some_iff.1 hk).1
  have hbo := valid_ok h.val (List.mem_of_getElem? hk)
  obtain ⟨r1, r2, r3, r4⟩ := okS_range hbo
  have hp : (cur.set k ⟨b.proj, b.weight, V⟩).map (·.proj) = cur.map (·.proj) := by
    rw [List.map_set]; exact set_same (by rw [List.getElem?_map, hk]; rfl)
  have hw : (cur.set k ⟨b.proj, b.weight, V⟩).map (·.weight) = cur.map (·.weight) := by
    rw [List.map_set]; exact set_same (by rw [List.getElem?_map, hk]; rfl)
  have hlen := h.len
  refine ⟨by rw [List.length_set]; exact h.lln, valid_of (by rw [List.length_set]; exact valid_len h.val) ?_ (asc_map hp.symm (valid_asc h.val)), h.projs.trans hp.symm, h.wts.trans hw.symm, ?_, ?_⟩
  · intro x hx
    obtain ⟨i, hi⟩ := List.getElem?_of_mem hx
    rcases set_at hi with ⟨_, rfl, _⟩ | ⟨_, hi⟩
    · unfold okS at hbo ⊢
      simp only [Bool.and_eq_true, decide_eq_true_eq] at hbo ⊢
      refine ⟨⟨hbo.1.1, ?_⟩, hV2⟩
      omega
    · exact valid_ok h.val (List.mem_of_getElem? hi)
  · intro i n' hi
    rcases set_at hi with ⟨_, rfl, _⟩ | ⟨_, hi⟩
    · have := h.rng k n hn; omega
    · exact h.rng i n' hi
  · intro i j x y a c n' hx hy ha hc hn'
    have hwy : c.weight = y.weight := by
      have h1 : (l.map (·.weight))[j]? = some y.weight := by rw [List.getElem?_map, hy]; rfl
      rw [h.wts, ← hw, List.getElem?_map, hc] at h1
      simpa using h1
    rcases set_at ha with ⟨rfl, rfl, _⟩ | ⟨hne, ha1⟩
    · rcases set_at hn' with ⟨_, rfl, _⟩ | ⟨e, _⟩
      · rcases set_at hc with ⟨rfl, rfl, _⟩ | ⟨hne2, hc⟩
        · rw [hx] at hy
          obtain rfl : x = y := by simpa using hy
          have : x.served.1 * x.weight.1 - x.served.1 * x.weight.1 = 0 := by omega
          refine Int.le_trans ?_ (Int.le_max_left _ _)
          show V.1 * b.weight.1 - V.1 * b.weight.1 ≤ _
          omega
        · refine Int.le_trans ?_ (Int.le_max_right _ _)
          show V.1 * c.weight.1 - c.served.1 * b.weight.1 ≤ n'.1 * c.weight.1
          have hl := bef_les (hmin c (List.mem_of_getElem? hc))
          rw [les_no] at hl
          obtain ⟨q1, _⟩ := okS_range (valid_ok h.val (List.mem_of_getElem? hc))
          rw [← hV, Int.add_mul]
          have := Int.mul_le_mul_of_nonneg_right hm2 (show 0 ≤ c.weight.1 by omega)
          omega
      · exact absurd rfl e
    · rcases set_at hn' with ⟨e, _⟩ | ⟨_, hn1⟩
      · exact absurd e hne
      · rcases set_at hc with ⟨rfl, rfl, _⟩ | ⟨hne2, hc1⟩
        · have hg := h.gap i j x y a b n' hx hy ha1 hk hn1
          obtain ⟨q1, _⟩ := okS_range (valid_ok h.val (List.mem_of_getElem? ha1))
          show a.served.1 * b.weight.1 - V.1 * a.weight.1 ≤ max _ (n'.1 * b.weight.1)
          rw [← hV, Int.add_mul]
          have := Int.mul_le_mul_of_nonneg_right h1 (show 0 ≤ a.weight.1 by omega)
          omega
        · exact h.gap i j x y a c n' hx hy ha1 hc1 hn1

/-- Whom Pick picks when all projects are listed. -/
theorem Inv.picked (h : Inv l cur lg) (hs : s.Perm l) {b : Share} {f : Bool} (hp : Picked cur (s.map (·.proj)) b f) : f = decide (0 < l.length) ∧ (f = true → b ∈ cur ∧ ∀ y ∈ cur, befB y b = false) := by
  have hall : ∀ y ∈ cur, y.proj ∈ s.map (·.proj) := fun y hy => by
    have : y.proj ∈ cur.map (·.proj) := List.mem_map_of_mem hy
    rw [← h.projs] at this
    exact ((hs.map (·.proj)).mem_iff).2 this
  have hlen := h.len
  rcases f with _ | _
  · refine ⟨?_, fun e => by cases e⟩
    rcases cur with _ | ⟨y, cur⟩
    · simp at hlen; rw [← hlen]; rfl
    · exact absurd (hall y (by simp)) (hp.1 y (by simp))
  · obtain ⟨h1, _, h3⟩ := hp.1
    refine ⟨?_, fun _ => ⟨h1, fun y hy => h3 y hy (hall y hy)⟩⟩
    have := List.length_pos_of_mem h1
    rw [decide_eq_true (by omega)]
theorem Inv.play (h : Inv l cur lg) (hs : s.Perm l) {b : Share} {f : Bool} (hp : Picked cur (s.map (·.proj)) b f) {co : I64} (hE : chE cur b.proj co.1 = 0) :
    ∃ (k : Nat) (n m : I64), k < l.length ∧ findP b.proj l = k ∧ lg[k]? = some n ∧ m.1 = max n.1 co.1 ∧ Inv l (chL cur b.proj co.1) (lg.set k m) := by
  obtain ⟨⟨c1, c2⟩, hf0, hV⟩ := chE_zero hE
  obtain ⟨_, hpk⟩ := h.picked hs hp
  have hf : f = true := by
    rcases f with _ | _
    · exfalso
      have hz := hp.2 rfl
      have hlt : (cur.findIdx (isProj b.proj)) < cur.length := by
        unfold findP at hf0
        split at hf0
        · assumption
        · omega
      obtain ⟨x, hx, hpx⟩ := List.findIdx_lt_length.1 hlt
      have hx2 := isProj_iff.1 hpx
      have := hp.1 x hx
      have hm : x.proj ∈ s.map (·.proj) := by
        have : x.proj ∈ cur.map (·.proj) := List.mem_map_of_mem hx
        rw [← h.projs] at this
        exact ((hs.map (·.proj)).mem_iff).2 this
      exact this hm
    · rfl
  obtain ⟨hb, hmin⟩ := hpk hf
  obtain ⟨k, hk, hbk⟩ := findP_mem (valid_asc h.val) hb
  have hkl := (List.getElem?_eq_some_iff.1 hbk).1
  have hlen := h.len
  obtain ⟨n, hn⟩ := get_some (show k < lg.length by rw [h.lln]; omega)
  obtain ⟨n1, n2⟩ := h.rng k n hn
  obtain ⟨m, hm⟩ := as_i64 (n := max n.1 co.1) (by omega)
  rw [hk, Int.toNat_natCast, get_bang hbk] at hV
  obtain ⟨r1, r2, r3, r4⟩ := okS_range (valid_ok h.val hb)
  obtain ⟨V, hVe⟩ := as_i64 (n := b.served.1 + co.1) (by omega)
  refine ⟨k, n, m, by omega, by rw [findP_map h.projs]; exact hk, hn, hm.symm, ?_⟩
  rw [ch_yes hE hk hbk hVe]
  exact h.step hbk hmin c1 hVe (by omega) hn (by omega) (by omega) (by omega)
/-- The numbers of the last comparison. -/
theorem Inv.nums (h : Inv l cur lg) (hv : validS l = true) {i k : Nat} {x y a b : Share} {n : I64} (hx : l[i]? = some x) (hy : l[k]? = some y) (ha : cur[i]? = some a) (hb : cur[k]? = some b) (hn : lg[i]? = some n) :
    (0 ≤ a.served.1 * b.weight.1 ∧ a.served.1 * b.weight.1 ≤ 1125899906842624000) ∧ (0 ≤ b.served.1 * a.weight.1 ∧ b.served.1 * a.weight.1 ≤ 1125899906842624000) ∧ (0 ≤ x.served.1 * y.weight.1 ∧ x.served.1 * y.weight.1 ≤ 1125899906842624000) ∧ (0 ≤ y.served.1 * x.weight.1 ∧ y.served.1 * x.weight.1 ≤ 1125899906842624000) ∧ (0 ≤ n.1 * b.weight.1 ∧ n.1 * b.weight.1 ≤ 1000000000) := by
  have ao := valid_ok h.val (List.mem_of_getElem? ha)
  have bo := valid_ok h.val (List.mem_of_getElem? hb)
  have xo := valid_ok hv (List.mem_of_getElem? hx)
  have yo := valid_ok hv (List.mem_of_getElem? hy)
  obtain ⟨a1, a2, _⟩ := okS_range ao
  obtain ⟨b1, b2, _⟩ := okS_range bo
  obtain ⟨x1, x2, _⟩ := okS_range xo
  obtain ⟨y1, y2, _⟩ := okS_range yo
  obtain ⟨n1, n2⟩ := h.rng i n hn
  refine ⟨sca_mul ao b1 b2, sca_mul bo a1 a2, sca_mul xo y1 y2, sca_mul yo x1 x2, Int.mul_nonneg n1 (by omega), ?_⟩
  have := Int.mul_le_mul n2 b2 (by omega) (by omega : (0 : Int) ≤ 1000000)
  omega
end Go.Proofs.YtopicpghhpkgbaaDoor
