/-
  Groups of jobs: what the calls do to them (plain), and that groups stay valid.
  Groups of jobs stay valid (plain).
  Groups of jobs: the order of arrival (plain); what a job's entering leaves (plain).
-/
import Derived.Test.YtbellobjajnlkaaDoorComm0
import Derived.Test.YtbellobjajnlkaaDoorStab

namespace Go.Proofs.YtbellobjajnlkaaDoor
open Go.RowKit

theorem get_bang {α : Type} [Inhabited α] {l : List α} {k : Nat} {x : α} (h : l[k]? = some x) : l[k]! = x := by
  rw [getElem!_def, h]
structure JRef where
  run : Str
  job : Str
deriving DecidableEq, Inhabited
structure G where
  name : Str
  rn : JRef
  wait : List JRef
deriving DecidableEq, Inhabited
theorem bsr_yes {q : Nat → Bool} {i j : Nat} (h : i < j) (hq : q ((i + j) / 2) = true) : bsr q i j = bsr q ((i + j) / 2 + 1) j := by rw [bsr, dif_pos h, if_pos hq]
theorem bsr_no {q : Nat → Bool} {i j : Nat} (h : i < j) (hq : q ((i + j) / 2) = false) : bsr q i j = bsr q i ((i + j) / 2) := by rw [bsr, dif_pos h, if_neg (by rw [hq]; decide)]
theorem bsr_end {q : Nat → Bool} {i j : Nat} (h : ¬ i < j) : bsr q i j = i := by rw [bsr, dif_neg h]
def isName (p : Str) (x : G) : Bool := x.name.1.toList == p.1.toList
/-- The place of a name, -1 if there is none. -/
def findN (p : Str) (l : List G) : Int := if l.findIdx (isName p) < l.length then (l.findIdx (isName p) : Int) else -1
theorem findIdx_at {α : Type} {p : α → Bool} {l : List α} {k : Nat} {x : α} (h : (l.take k).all (fun y => !p y) = true) (hx : l[k]? = some x) (hp : p x = true) : l.findIdx p = k := by
  obtain ⟨hk, rfl⟩ := List.getElem?_eq_some_iff.1 hx
  refine (List.findIdx_eq hk).2 ⟨hp, fun j hj => ?_⟩
  have := List.all_eq_true.1 h (l[j]'(by omega)) (by rw [List.mem_take_iff_getElem]; exact ⟨j, by omega, rfl⟩)
  simpa using this
theorem findN_at {p : Str} {l : List G} {k : Nat} {x : G} (h : (l.take k).all (fun y => !isName p y) = true) (hx : l[k]? = some x) (hp : isName p x = true) : findN p l = k := by
  have hk := (List.getElem?_eq_some_iff.1 hx).1
  unfold findN
  rw [findIdx_at h hx hp, if_pos hk]
theorem findN_none {p : Str} {l : List G} (h : l.all (fun y => !isName p y) = true) : findN p l = -1 := by
  unfold findN
  rw [if_neg]
  rw [List.findIdx_lt_length]
  rintro ⟨x, hx, hp⟩
  have := List.all_eq_true.1 h x hx
  rw [hp] at this; cases this
/-- Where a name is, or would be put; whether it is there; how many stand ahead of it. -/
def atN (p : Str) (l : List G) : Nat := bsr (fun h => decide (cmpS l[h]!.name p < 0)) 0 l.length
def hasN (p : Str) (l : List G) : Bool := decide (atN p l < l.length) && decide (cmpS l[atN p l]!.name p = 0)
def plN (p : Str) (l : List G) : Nat := (l.takeWhile fun y => decide (cmpS y.name p < 0)).length
theorem plN_at {p : Str} {l : List G} {k : Nat} (hk : k ≤ l.length) (ht : ∀ j y, j < k → l[j]? = some y → cmpS y.name p < 0) (hf : ∀ y, l[k]? = some y → ¬ cmpS y.name p < 0) : plN p l = k := by
  unfold plN
  induction l generalizing k with
  | nil => simp at hk; subst hk; rfl
  | cons a l ih =>
    rcases k with _ | k
    · have := hf a rfl
      rw [List.takeWhile_cons_of_neg (by simpa using this)]; rfl
    · have h0 := ht 0 a (by omega) rfl
      rw [List.takeWhile_cons_of_pos (by simpa using h0), List.length_cons, ih (by simpa using hk) (fun j y hj hy => ht (j + 1) y (by omega) hy) (fun y hy => hf y hy)]
theorem plN_le (p : Str) (l : List G) : plN p l ≤ l.length := (List.takeWhile_prefix _).length_le
/-- Each name comes behind the ones before. -/
def AscN (l : List G) : Prop := ∀ (i j : Nat) (x y : G), i < j → l[i]? = some x → l[j]? = some y → cmpS x.name y.name < 0
theorem asc_of_steps {l : List G} (h : ∀ (k : Nat) (x y : G), l[k + 1]? = some x → l[k]? = some y → cmpS y.name x.name < 0) : AscN l := by
  intro i j
  induction j with
  | zero => intro x y hij; omega
  | succ j ih =>
    intro x y hij hx hy
    obtain ⟨z, hz⟩ := get_some (show j < l.length by have := (List.getElem?_eq_some_iff.1 hy).1; omega)
    have h1 := h j y z hy hz
    by_cases e : i = j
    · subst e
      rw [hx] at hz
      obtain rfl : x = z := by simpa using hz
      exact h1
    · exact ord_str.trans _ _ _ (ih x z (by omega) hx hz) h1
theorem atN_spec {l : List G} (ha : AscN l) (p : Str) : atN p l ≤ l.length ∧ (∀ j y, j < atN p l → l[j]? = some y → cmpS y.name p < 0) ∧ (∀ j y, atN p l ≤ j → l[j]? = some y → ¬ cmpS y.name p < 0) := by
  obtain ⟨_, h2, h3, h4⟩ := bsr_spec (fun h => decide (cmpS l[h]!.name p < 0)) l.length 0 l.length (by omega) (Nat.zero_le _) (fun c c' _ hcc hc' hq => by
    obtain ⟨x, hx⟩ := get_some (show c < l.length by omega)
    obtain ⟨y, hy⟩ := get_some hc'
    simp only [get_bang hx, get_bang hy, decide_eq_false_iff_not] at hq ⊢
    rcases Nat.lt_or_eq_of_le hcc with hlt | rfl
    · exact fun h => hq (ord_str.trans _ _ _ (ha c c' x y hlt hx hy) h)
    · rw [hx] at hy
      obtain rfl : x = y := by simpa using hy
      exact hq)
  refine ⟨h2, fun j y hj hy => ?_, fun j y hj hy => ?_⟩
  · have := h3 j (Nat.zero_le _) hj
    simpa [get_bang hy] using this
  · have := h4 j hj (List.getElem?_eq_some_iff.1 hy).1
    simpa [get_bang hy] using this
theorem isName_iff {p : Str} {x : G} : isName p x = true ↔ x.name = p := by unfold isName; rw [eq_str, decide_eq_true_eq]
theorem cmp_ne {a b : Str} (h : cmpS a b < 0) : a ≠ b := fun e => by rw [(ord_str.zero a b).2 e] at h; omega
/-- Where a name is: found by both, or by neither. -/
theorem find_cases {l : List G} (ha : AscN l) (p : Str) : (hasN p l = true ∧ findN p l = (atN p l : Int) ∧ ∃ x, l[atN p l]? = some x ∧ x.name = p) ∨ (hasN p l = false ∧ findN p l = -1 ∧ plN p l = atN p l ∧ atN p l ≤ l.length ∧ ∀ x ∈ l, x.name ≠ p) := by
  obtain ⟨h1, h2, h3⟩ := atN_spec ha p
  by_cases hlt : atN p l < l.length
  · obtain ⟨x, hx⟩ := get_some hlt
    by_cases hz : cmpS x.name p = 0
    · have hxp := (ord_str.zero _ _).1 hz
      refine Or.inl ⟨?_, ?_, x, hx, hxp⟩
      · unfold hasN; rw [get_bang hx, hz, decide_eq_true hlt]; rfl
      · refine findN_at ?_ hx (isName_iff.2 hxp)
        rw [List.all_eq_true]
        intro y hy
        obtain ⟨j, hj⟩ := List.getElem?_of_mem hy
        rw [List.getElem?_take] at hj
        split at hj
        · rename_i hjl
          have := cmp_ne (h2 j y hjl hj)
          rw [Bool.not_eq_true', ← Bool.not_eq_true]
          exact fun e => this (isName_iff.1 e)
        · cases hj
    · have hgt : cmpS p x.name < 0 := by have := h3 _ x (Nat.le_refl _) hx; rw [ord_str.neg x.name p]; omega
      have hno : ∀ y ∈ l, y.name ≠ p := fun y hy e => by
        obtain ⟨j, hj⟩ := List.getElem?_of_mem hy
        rcases Nat.lt_trichotomy j (atN p l) with h | h | h
        · exact cmp_ne (h2 j y h hj) e
        · subst h
          rw [hx] at hj
          obtain rfl : x = y := by simpa using hj
          exact hz ((ord_str.zero _ _).2 e)
        · exact cmp_ne (ord_str.trans _ _ _ hgt (ha _ _ x y h hx hj)) e.symm
      refine Or.inr ⟨?_, ?_, ?_, h1, hno⟩
      · unfold hasN; rw [get_bang hx, decide_eq_false hz, Bool.and_false]
      · refine findN_none ?_
        rw [List.all_eq_true]
        intro y hy
        rw [Bool.not_eq_true', ← Bool.not_eq_true]
        exact fun e => hno y hy (isName_iff.1 e)
      · exact plN_at h1 (fun j y hj hy => h2 j y hj hy) (fun y hy => h3 _ y (Nat.le_refl _) hy)
  · have hno : ∀ y ∈ l, y.name ≠ p := fun y hy e => by
      obtain ⟨j, hj⟩ := List.getElem?_of_mem hy
      have := (List.getElem?_eq_some_iff.1 hj).1
      exact cmp_ne (h2 j y (by omega) hj) e
    refine Or.inr ⟨?_, ?_, ?_, h1, hno⟩
    · unfold hasN; rw [decide_eq_false hlt]; rfl
    · refine findN_none ?_
      rw [List.all_eq_true]
      intro y hy
      rw [Bool.not_eq_true', ← Bool.not_eq_true]
      exact fun e => hno y hy (isName_iff.1 e)
    · exact plN_at h1 (fun j y hj hy => h2 j y hj hy) (fun y hy => h3 _ y (Nat.le_refl _) hy)
abbrev zS : Str := ⟨⟨#[]⟩, by decide⟩
abbrev zR : JRef := ⟨zS, zS⟩
def jobsG (g : G) : List JRef := if g.rn = zR then g.wait else g.rn :: g.wait
def allG (gs : List G) : List JRef := gs.flatMap jobsG
def jobB (r : JRef) : Bool := pathB r.run && pathB r.job
theorem path_zero : pathB zS = false := by decide
theorem job_zero : jobB zR = false := by unfold jobB; rw [path_zero]; rfl
theorem job_ne {r : JRef} (h : jobB r = true) : r ≠ zR := fun e => by rw [e, job_zero] at h; cases h

/-- Whether the group at a place is as it ought to be. -/
def okG (gs : List G) (i : Nat) : Bool := pathB gs[i]!.name && (decide (i = 0) || decide (cmpS gs[i - 1]!.name gs[i]!.name < 0)) && decide (jobsG gs[i]! ≠ [])
def dupAt (l : List JRef) (i : Nat) : Bool := (l.take i).any fun x => decide (x = l[i]!)
def validB (gs : List G) : Bool := (List.range gs.length).all (okG gs) && decide ((allG gs).length ≤ 4096) && decide (allG gs).Nodup && (allG gs).all jobB
/-- The same, said by elements. -/
structure Val (gs : List G) : Prop where
  path : ∀ g ∈ gs, pathB g.name = true
  asc : AscN gs
  some : ∀ g ∈ gs, jobsG g ≠ []
  len : (allG gs).length ≤ 4096
  nodup : (allG gs).Nodup
  job : ∀ r ∈ allG gs, jobB r = true
theorem okG_zero {gs : List G} {x : G} (hx : gs[0]? = some x) : okG gs 0 = (pathB x.name && decide (jobsG x ≠ [])) := by
  unfold okG; rw [get_bang hx]; simp
theorem okG_succ {gs : List G} {k : Nat} {x y : G} (hx : gs[k + 1]? = some x) (hy : gs[k]? = some y) : okG gs (k + 1) = (pathB x.name && decide (cmpS y.name x.name < 0) && decide (jobsG x ≠ [])) := by
  unfold okG; rw [get_bang hx, Nat.add_sub_cancel, get_bang hy]; simp
theorem val_iff {gs : List G} : validB gs = true ↔ Val gs := by
  unfold validB
  simp only [Bool.and_eq_true, List.all_eq_true, List.mem_range, decide_eq_true_eq]
  constructor
  · rintro ⟨⟨⟨h1, h2⟩, h3⟩, h4⟩
    have hk : ∀ (k : Nat) (x : G), gs[k]? = some x → pathB x.name = true ∧ jobsG x ≠ [] := fun k x hx => by
      have h := h1 k (List.getElem?_eq_some_iff.1 hx).1
      unfold okG at h
      rw [get_bang hx] at h
      simp only [Bool.and_eq_true, decide_eq_true_eq] at h
      exact ⟨h.1.1, h.2⟩
    refine ⟨fun g hg => ?_, asc_of_steps fun k x y hx hy => ?_, fun g hg => ?_, h2, h3, h4⟩
    · obtain ⟨k, hk2⟩ := List.getElem?_of_mem hg
      exact (hk k g hk2).1
    · have h := h1 (k + 1) (List.getElem?_eq_some_iff.1 hx).1
      rw [okG_succ hx hy] at h
      simp only [Bool.and_eq_true, decide_eq_true_eq] at h
      exact h.1.2
    · obtain ⟨k, hk2⟩ := List.getElem?_of_mem hg
      exact (hk k g hk2).2
  · intro h
    refine ⟨⟨⟨fun i hi => ?_, h.len⟩, h.nodup⟩, h.job⟩
    obtain ⟨x, hx⟩ := get_some hi
    have hm := List.mem_of_getElem? hx
    rcases i with _ | k
    · rw [okG_zero hx, h.path x hm, decide_eq_true (h.some x hm)]; rfl
    · obtain ⟨y, hy⟩ := get_some (show k < gs.length by omega)
      rw [okG_succ hx hy, h.path x hm, decide_eq_true (h.some x hm), decide_eq_true (h.asc k (k + 1) y x (by omega) hy hx)]; rfl
def validE (gs : List G) : Int := if validB gs = true then 0 else 1

/-- A job put into a group. -/
def joinG (g : G) (r : JRef) (p : Int) : G := if g.rn = zR ∧ g.wait = [] then { g with rn := r } else { g with wait := (if p = 0 then g.wait else []) ++ [r] }
def joinRun (g : G) : Bool := decide (g.rn = zR) && decide (g.wait = [])
def joinCan (g : G) (p : Int) : List JRef := if g.rn = zR ∧ g.wait = [] then [] else (if p = 2 ∧ g.rn ≠ zR then [g.rn] else []) ++ (if p = 0 then [] else g.wait)
def enterE (gs : List G) (nm : Str) (r : JRef) (p : Int) : Int := if validB gs = false then 1 else if jobB r = false then 1 else if pathB nm = false then 10 else if p < 0 then 2 else if 2 < p then 2 else if r ∈ allG gs then 7 else if 4096 ≤ (allG gs).length then 21 else 0
def putG (gs : List G) (g : G) : List G := if hasN g.name gs = true then gs.set (atN g.name gs) g else gs.take (atN g.name gs) ++ g :: gs.drop (atN g.name gs)
/-- The group of a name, or an empty one. -/
def getG (gs : List G) (nm : Str) : G := if hasN nm gs = true then gs[atN nm gs]! else ⟨nm, zR, []⟩
def enterL (gs : List G) (nm : Str) (r : JRef) (p : Int) : List G := if enterE gs nm r p ≠ 0 then gs else putG gs (joinG (getG gs nm) r p)
def enterRun (gs : List G) (nm : Str) (r : JRef) (p : Int) : Bool := if enterE gs nm r p ≠ 0 then false else joinRun (getG gs nm)
def enterCan (gs : List G) (nm : Str) (r : JRef) (p : Int) : List JRef := if enterE gs nm r p ≠ 0 then [] else joinCan (getG gs nm) p
/-- A group that a job has left. -/
def dropG (r : JRef) (g : G) : G := { g with rn := if g.rn = r then zR else g.rn, wait := g.wait.filter fun x => decide (x ≠ r) }
def leaveL (gs : List G) (r : JRef) : List G := if validB gs = false then gs else (gs.map (dropG r)).filter fun g => decide (jobsG g ≠ [])
def startE (gs : List G) (nm : Str) (r : JRef) : Int := if validB gs = false then 1 else if hasN nm gs = false then 8 else if gs[atN nm gs]!.rn ≠ zR then 16 else if gs[atN nm gs]!.wait.head? ≠ some r then 22 else 0
def startG (g : G) (r : JRef) : G := { g with rn := r, wait := g.wait.tail }
def startL (gs : List G) (nm : Str) (r : JRef) : List G := if startE gs nm r ≠ 0 then gs else gs.set (atN nm gs) (startG gs[atN nm gs]! r)
def mayB (gs : List G) (nm : Str) (r : JRef) : Bool := if nm = zS then true else if validB gs = false then false else if hasN nm gs = false then false else if gs[atN nm gs]!.rn ≠ zR then decide (gs[atN nm gs]!.rn = r) else decide (gs[atN nm gs]!.wait.head? = some r)

/-! Lists with one element put in, or put for another. -/
theorem has_at {gs : List G} {nm : Str} (h : hasN nm gs = true) : ∃ x, gs[atN nm gs]? = some x ∧ x.name = nm := by
  unfold hasN at h
  simp only [Bool.and_eq_true, decide_eq_true_eq] at h
  obtain ⟨x, hx⟩ := get_some h.1
  rw [get_bang hx] at h
  exact ⟨x, hx, (ord_str.zero _ _).1 h.2⟩
theorem no_at {gs : List G} (ha : AscN gs) {nm : Str} (h : hasN nm gs = false) : ∀ g ∈ gs, g.name ≠ nm := by
  rcases find_cases ha nm with ⟨h1, _⟩ | ⟨_, _, _, _, h2⟩
  · rw [h1] at h; cases h
  · exact h2
theorem getG_name (gs : List G) (nm : Str) : (getG gs nm).name = nm := by
  unfold getG
  split
  · rename_i h
    obtain ⟨x, hx, e⟩ := has_at h
    rw [get_bang hx, e]
  · rfl
theorem joinG_name (g : G) (r : JRef) (p : Int) : (joinG g r p).name = g.name := by unfold joinG; split <;> rfl
theorem set_split {α : Type} {l : List α} {k : Nat} {x : α} (y : α) (h : l[k]? = some x) : l = l.take k ++ x :: l.drop (k + 1) ∧ l.set k y = l.take k ++ y :: l.drop (k + 1) := by
  obtain ⟨hk, rfl⟩ := List.getElem?_eq_some_iff.1 h
  refine ⟨?_, ?_⟩
  · rw [List.getElem_cons_drop, List.take_append_drop]
  · rw [List.set_eq_take_append_cons_drop, if_pos hk]
/-- A list that is ascending by its names, with one element for another of its name, or a new one put in its place. -/
theorem asc_pair {gs : List G} : AscN gs ↔ gs.Pairwise fun a b => cmpS a.name b.name < 0 := by
  rw [List.pairwise_iff_getElem]
  constructor
  · intro h i j hi hj hij
    exact h i j _ _ hij (List.getElem?_eq_getElem hi) (List.getElem?_eq_getElem hj)
  · intro h i j x y hij hx hy
    obtain ⟨hi, rfl⟩ := List.getElem?_eq_some_iff.1 hx
    obtain ⟨hj, rfl⟩ := List.getElem?_eq_some_iff.1 hy
    exact h i j hi hj hij
theorem putG_split {gs : List G} {g : G} (_ha : AscN gs) : ∃ A m B, gs = A ++ m ++ B ∧ putG gs g = A ++ g :: B ∧ ((m = [] ∧ hasN g.name gs = false) ∨ ∃ x, m = [x] ∧ x.name = g.name ∧ hasN g.name gs = true ∧ gs[atN g.name gs]? = some x) ∧ A = gs.take (atN g.name gs) := by
  unfold putG
  rcases hh : hasN g.name gs with _ | _
  · refine ⟨gs.take (atN g.name gs), [], gs.drop (atN g.name gs), by simp, by rw [if_neg (by decide)], Or.inl ⟨rfl, rfl⟩, rfl⟩
  · obtain ⟨x, hx, e⟩ := has_at hh
    obtain ⟨h1, h2⟩ := set_split g hx
    exact ⟨gs.take (atN g.name gs), [x], gs.drop (atN g.name gs + 1), by simpa using h1, by rw [if_pos rfl]; exact h2, Or.inr ⟨x, rfl, e, rfl, hx⟩, rfl⟩
theorem put_asc {gs : List G} {g : G} (ha : AscN gs) : AscN (putG gs g) := by
  obtain ⟨A, m, B, e, ep, hm, hA⟩ := putG_split (g := g) ha
  rw [ep, asc_pair]
  have hp := asc_pair.1 ha
  obtain ⟨_, h2, h3⟩ := atN_spec ha g.name
  rw [e, List.append_assoc, List.pairwise_append] at hp
  obtain ⟨pA, pB, pAB⟩ := hp
  have pB' := (List.pairwise_append.1 pB).2.1
  have hAlt : ∀ a ∈ A, cmpS a.name g.name < 0 := fun a ha' => by
    rw [hA] at ha'
    obtain ⟨j, hj⟩ := List.getElem?_of_mem ha'
    rw [List.getElem?_take] at hj
    split at hj
    · rename_i hjl; exact h2 j a hjl hj
    · cases hj
  have hBgt : ∀ b ∈ B, cmpS g.name b.name < 0 := fun b hb => by
    rcases hm with ⟨rfl, hno⟩ | ⟨x, rfl, ex, _, hx⟩
    · have hbm : b ∈ gs := by rw [e]; simp [hb]
      obtain ⟨j, hj⟩ := List.getElem?_of_mem hbm
      have hne := no_at ha hno b hbm
      have hge : atN g.name gs ≤ j ∨ j < atN g.name gs := by omega
      rcases hge with hge | hlt
      · have := h3 j b hge hj
        exact ord_str.total this hne
      · exfalso
        have hAl : A.length = min (atN g.name gs) gs.length := by rw [hA, List.length_take]
        obtain ⟨t, ht⟩ := List.getElem?_of_mem hb
        have hj2 : gs[A.length + t]? = some b := by
          have h5 : (A ++ [] ++ B)[A.length + t]? = some b := by
            rw [List.append_nil, List.getElem?_append_right (by omega), Nat.add_sub_cancel_left]; exact ht
          rwa [← e] at h5
        have hjl := (List.getElem?_eq_some_iff.1 hj).1
        have := ha j (A.length + t) b b (by omega) hj hj2
        exact ord_str.irrefl _ this
    · rw [← ex]
      exact (List.pairwise_append.1 pB).2.2 x (by simp) b hb
  rw [List.pairwise_append, List.pairwise_cons]
  refine ⟨pA, ⟨hBgt, pB'⟩, fun a ha' b hb => ?_⟩
  rcases List.mem_cons.1 hb with rfl | hb
  · exact hAlt a ha'
  · exact pAB a ha' b (by simp [hb])
end Go.Proofs.YtbellobjajnlkaaDoor

namespace Go.Proofs.YtbellobjajnlkaaDoor
open Go.RowKit

theorem all_app (A B : List G) : allG (A ++ B) = allG A ++ allG B := by unfold allG; rw [List.flatMap_append]
theorem all_cons (g : G) (B : List G) : allG (g :: B) = jobsG g ++ allG B := by unfold allG; rw [List.flatMap_cons]
theorem all_nil : allG [] = [] := rfl
theorem all_mem {gs : List G} {r : JRef} : r ∈ allG gs ↔ ∃ g ∈ gs, r ∈ jobsG g := by unfold allG; rw [List.mem_flatMap]
theorem name_one {gs : List G} (ha : AscN gs) {x y : G} (hx : x ∈ gs) (hy : y ∈ gs) (h : x.name = y.name) : x = y := by
  obtain ⟨i, hi⟩ := List.getElem?_of_mem hx
  obtain ⟨j, hj⟩ := List.getElem?_of_mem hy
  rcases Nat.lt_trichotomy i j with h1 | h1 | h1
  · exact absurd h (cmp_ne (ha i j x y h1 hi hj))
  · subst h1
    rw [hi] at hj
    simpa using hj
  · exact absurd h.symm (cmp_ne (ha j i y x h1 hj hi))
theorem has_mem {gs : List G} (ha : AscN gs) {g : G} (hg : g ∈ gs) : hasN g.name gs = true ∧ findN g.name gs = (atN g.name gs : Int) ∧ gs[atN g.name gs]? = some g := by
  rcases find_cases ha g.name with ⟨h1, h2, x, hx, e⟩ | ⟨_, _, _, _, h⟩
  · exact ⟨h1, h2, by rw [hx, name_one ha (List.mem_of_getElem? hx) hg e]⟩
  · exact absurd rfl (h g hg)
theorem enterE_ok {gs : List G} {nm : Str} {r : JRef} {p : Int} (h : enterE gs nm r p = 0) : Val gs ∧ jobB r = true ∧ pathB nm = true ∧ 0 ≤ p ∧ p ≤ 2 ∧ r ∉ allG gs ∧ (allG gs).length < 4096 := by
  unfold enterE at h
  by_cases h1 : validB gs = false
  · rw [if_pos h1] at h; cases h
  rw [if_neg h1] at h
  by_cases h2 : jobB r = false
  · rw [if_pos h2] at h; cases h
  rw [if_neg h2] at h
  by_cases h3 : pathB nm = false
  · rw [if_pos h3] at h; cases h
  rw [if_neg h3] at h
  by_cases h4 : p < 0
  · rw [if_pos h4] at h; cases h
  rw [if_neg h4] at h
  by_cases h5 : 2 < p
  · rw [if_pos h5] at h; cases h
  rw [if_neg h5] at h
  by_cases h6 : r ∈ allG gs
  · rw [if_pos h6] at h; cases h
  rw [if_neg h6] at h
  by_cases h7 : 4096 ≤ (allG gs).length
  · rw [if_pos h7] at h; cases h
  exact ⟨val_iff.1 (by simpa using h1), by simpa using h2, by simpa using h3, by omega, by omega, h6, by omega⟩
/-- What a job's entering makes of a list of groups. -/
theorem enter_split {gs : List G} {nm : Str} {r : JRef} {p : Int} (h : enterE gs nm r p = 0) :
    ∃ A m B, gs = A ++ m ++ B ∧ enterL gs nm r p = A ++ joinG (getG gs nm) r p :: B ∧ ((m = [] ∧ getG gs nm = ⟨nm, zR, []⟩ ∧ hasN nm gs = false) ∨ ∃ x, m = [x] ∧ x.name = nm ∧ getG gs nm = x ∧ jobsG x ≠ []) := by
  obtain ⟨hv, _⟩ := enterE_ok h
  have hn : (joinG (getG gs nm) r p).name = nm := by rw [joinG_name, getG_name]
  obtain ⟨A, m, B, e, ep, hm, _⟩ := putG_split (g := joinG (getG gs nm) r p) hv.asc
  rw [hn] at hm
  refine ⟨A, m, B, e, by unfold enterL; rw [if_neg (by rw [h]; decide), ep], ?_⟩
  rcases hm with ⟨h1, h2⟩ | ⟨x, h1, h2, h3, h4⟩
  · exact Or.inl ⟨h1, by unfold getG; rw [if_neg (by rw [h2]; decide)], h2⟩
  · exact Or.inr ⟨x, h1, h2, by unfold getG; rw [if_pos h3, get_bang h4], hv.some x (List.mem_of_getElem? h4)⟩
theorem join_old {x : G} {r : JRef} {p : Int} (hx : jobsG x ≠ []) : joinG x r p = { x with wait := (if p = 0 then x.wait else []) ++ [r] } := by
  unfold joinG
  rw [if_neg]
  rintro ⟨h1, h2⟩
  unfold jobsG at hx
  rw [if_pos h1, h2] at hx
  exact hx rfl
theorem jobs_join {x : G} {r : JRef} {p : Int} (hx : jobsG x ≠ []) : (jobsG (joinG x r p)).Sublist (jobsG x ++ [r]) ∧ r ∈ jobsG (joinG x r p) := by
  rw [join_old hx]
  have hs : ((if p = 0 then x.wait else []) ++ [r]).Sublist (x.wait ++ [r]) := by
    split
    · exact List.Sublist.refl _
    · simp
  unfold jobsG
  by_cases hz : x.rn = zR
  · rw [if_pos hz, if_pos hz]
    exact ⟨hs, by simp⟩
  · rw [if_neg hz, if_neg hz]
    exact ⟨hs.cons_cons _, by simp⟩
theorem sub_enter {gs : List G} {nm : Str} {r : JRef} {p : Int} (h : enterE gs nm r p = 0) :
    ∃ A B C D, allG gs = A ++ C ++ B ∧ allG (enterL gs nm r p) = A ++ D ++ B ∧ D.Sublist (C ++ [r]) ∧ r ∈ D := by
  obtain ⟨hv, hj, _⟩ := enterE_ok h
  obtain ⟨A, m, B, e, ep, hm⟩ := enter_split h
  refine ⟨allG A, allG B, allG m, jobsG (joinG (getG gs nm) r p), by rw [e, all_app, all_app], by rw [ep, all_app, all_cons, List.append_assoc], ?_⟩
  rcases hm with ⟨rfl, hg, _⟩ | ⟨x, rfl, _, hg, hx⟩
  · rw [hg]
    have e2 : jobsG (joinG ⟨nm, zR, []⟩ r p) = [r] := by unfold joinG; rw [if_pos ⟨rfl, rfl⟩]; unfold jobsG; rw [if_neg (job_ne hj)]
    rw [e2, all_nil]
    exact ⟨List.Sublist.refl _, by simp⟩
  · rw [hg, all_cons, all_nil, List.append_nil]
    exact jobs_join hx
theorem enter_mem {gs : List G} {nm : Str} {r : JRef} {p : Int} (h : enterE gs nm r p = 0) {g : G} (hg : g ∈ enterL gs nm r p) : g = joinG (getG gs nm) r p ∨ (g ∈ gs ∧ g.name ≠ nm) := by
  obtain ⟨hv, _⟩ := enterE_ok h
  obtain ⟨A, m, B, e, ep, hm⟩ := enter_split h
  have ha : AscN (enterL gs nm r p) := by unfold enterL; rw [if_neg (by rw [h]; decide)]; exact put_asc hv.asc
  by_cases hn : g.name = nm
  · left
    exact name_one ha hg (by rw [ep]; simp) (by rw [hn, joinG_name, getG_name])
  · right
    refine ⟨?_, hn⟩
    rw [ep] at hg
    rw [e]
    rcases List.mem_append.1 hg with h1 | h1
    · simp [h1]
    · rcases List.mem_cons.1 h1 with h2 | h2
      · exact absurd (by rw [h2, joinG_name, getG_name]) hn
      · simp [h2]
theorem val_enter {gs : List G} {nm : Str} {r : JRef} {p : Int} (h : enterE gs nm r p = 0) : Val (enterL gs nm r p) := by
  obtain ⟨hv, hj, hp, _, _, hr, hl⟩ := enterE_ok h
  obtain ⟨A, B, C, D, e1, e2, hs, hD⟩ := sub_enter h
  have hsub : (A ++ D ++ B).Sublist (A ++ (C ++ [r]) ++ B) := ((List.Sublist.refl A).append hs).append (List.Sublist.refl B)
  have hperm : (A ++ (C ++ [r]) ++ B).Perm (r :: (A ++ C ++ B)) := by
    have : A ++ (C ++ [r]) ++ B = (A ++ C) ++ r :: B := by simp
    rw [this]
    exact List.perm_middle
  refine ⟨fun g hg => ?_, by unfold enterL; rw [if_neg (by rw [h]; decide)]; exact put_asc hv.asc, fun g hg => ?_, ?_, ?_, fun s hs2 => ?_⟩
  · rcases enter_mem h hg with e | ⟨h1, _⟩
    · rw [e, joinG_name, getG_name]; exact hp
    · exact hv.path g h1
  · rcases enter_mem h hg with e | ⟨h1, _⟩
    · subst e
      obtain ⟨_, m, _, _, _, hm⟩ := enter_split h
      rcases hm with ⟨_, hg2, _⟩ | ⟨x, _, _, hg2, hx⟩
      · rw [hg2]
        unfold joinG
        rw [if_pos ⟨rfl, rfl⟩]
        unfold jobsG
        rw [if_neg (job_ne hj)]
        simp
      · rw [hg2]
        exact fun e => by have := (jobs_join (r := r) (p := p) hx).2; rw [e] at this; simp at this
    · exact hv.some g h1
  · rw [e2]
    have h1 := hsub.length_le
    have h2 := hperm.length_eq
    rw [e1] at hl
    simp only [List.length_cons] at h2
    omega
  · rw [e2]
    refine hsub.nodup (hperm.nodup_iff.2 (List.nodup_cons.2 ⟨by rw [← e1]; exact hr, by rw [← e1]; exact hv.nodup⟩))
  · rw [e2] at hs2
    have h1 := hperm.mem_iff.1 (hsub.mem hs2)
    rcases List.mem_cons.1 h1 with h2 | h2
    · rw [h2]; exact hj
    · exact hv.job s (by rw [e1]; exact h2)

/-! Leaving. -/
theorem jobs_drop (r : JRef) (g : G) : (jobsG (dropG r g)).Sublist (jobsG g) := by
  unfold jobsG dropG
  by_cases hz : g.rn = zR
  · rw [if_pos (by show (if g.rn = r then zR else g.rn) = zR; split <;> first | rfl | exact hz), if_pos hz]
    exact List.filter_sublist
  · rw [if_neg hz]
    by_cases hr : g.rn = r
    · rw [if_pos (by show (if g.rn = r then zR else g.rn) = zR; rw [if_pos hr])]
      exact (List.filter_sublist).cons _
    · rw [if_neg (by show ¬ (if g.rn = r then zR else g.rn) = zR; rw [if_neg hr]; exact hz)]
      show ((if g.rn = r then zR else g.rn) :: _).Sublist _
      rw [if_neg hr]
      exact (List.filter_sublist).cons_cons _
theorem all_drop (r : JRef) : ∀ (gs : List G), (allG ((gs.map (dropG r)).filter fun g => decide (jobsG g ≠ []))).Sublist (allG gs)
  | [] => List.Sublist.refl _
  | g :: gs => by
    rw [List.map_cons, all_cons]
    by_cases h : jobsG (dropG r g) ≠ []
    · rw [List.filter_cons_of_pos (by simpa using h), all_cons]
      exact (jobs_drop r g).append (all_drop r gs)
    · rw [List.filter_cons_of_neg (by simpa using h)]
      exact (all_drop r gs).trans (List.sublist_append_right _ _)
theorem leave_mem {gs : List G} {r : JRef} (hv : Val gs) {h : G} (hh : h ∈ leaveL gs r) : ∃ g ∈ gs, h = dropG r g ∧ jobsG h ≠ [] := by
  unfold leaveL at hh
  rw [if_neg (by rw [val_iff.2 hv]; decide)] at hh
  obtain ⟨h1, h2⟩ := List.mem_filter.1 hh
  obtain ⟨g, hg, e⟩ := List.mem_map.1 h1
  exact ⟨g, hg, e.symm, by simpa using h2⟩
theorem val_leave {gs : List G} {r : JRef} (hv : Val gs) : Val (leaveL gs r) := by
  have e : leaveL gs r = (gs.map (dropG r)).filter fun g => decide (jobsG g ≠ []) := by unfold leaveL; rw [if_neg (by rw [val_iff.2 hv]; decide)]
  have hsub := all_drop r gs
  rw [← e] at hsub
  refine ⟨fun h hh => ?_, ?_, fun h hh => ?_, Nat.le_trans hsub.length_le hv.len, hsub.nodup hv.nodup, fun s hs => hv.job s (hsub.mem hs)⟩
  · obtain ⟨g, hg, rfl, _⟩ := leave_mem hv hh
    exact hv.path g hg
  · rw [asc_pair, e]
    refine List.Pairwise.sublist List.filter_sublist ?_
    rw [List.pairwise_map]
    exact asc_pair.1 hv.asc
  · obtain ⟨g, hg, _, h2⟩ := leave_mem hv hh
    exact h2

/-! Starting. -/
theorem startE_ok {gs : List G} {nm : Str} {r : JRef} (h : startE gs nm r = 0) : Val gs ∧ hasN nm gs = true ∧ ∃ x t, gs[atN nm gs]? = some x ∧ x.name = nm ∧ x.rn = zR ∧ x.wait = r :: t := by
  unfold startE at h
  by_cases h1 : validB gs = false
  · rw [if_pos h1] at h; cases h
  rw [if_neg h1] at h
  by_cases h2 : hasN nm gs = false
  · rw [if_pos h2] at h; cases h
  rw [if_neg h2] at h
  have h2t : hasN nm gs = true := by simpa using h2
  obtain ⟨x, hx, e⟩ := has_at h2t
  rw [get_bang hx] at h
  by_cases h3 : x.rn ≠ zR
  · rw [if_pos h3] at h; cases h
  rw [if_neg h3] at h
  by_cases h4 : x.wait.head? ≠ some r
  · rw [if_pos h4] at h; cases h
  have h4' : x.wait.head? = some r := Classical.not_not.1 h4
  refine ⟨val_iff.1 (by simpa using h1), h2t, x, x.wait.tail, hx, e, Classical.not_not.1 h3, ?_⟩
  cases hw : x.wait with
  | nil => rw [hw] at h4'; cases h4'
  | cons a t => rw [hw] at h4'; simp at h4'; rw [h4']; rfl
theorem start_split {gs : List G} {nm : Str} {r : JRef} (h : startE gs nm r = 0) : ∃ A x B t, gs = A ++ x :: B ∧ startL gs nm r = A ++ ⟨x.name, r, t⟩ :: B ∧ x.name = nm ∧ x.rn = zR ∧ x.wait = r :: t := by
  obtain ⟨hv, hh, x, t, hx, e, h1, h2⟩ := startE_ok h
  obtain ⟨s1, s2⟩ := set_split (startG x r) hx
  refine ⟨gs.take (atN nm gs), x, gs.drop (atN nm gs + 1), t, s1, ?_, e, h1, h2⟩
  unfold startL
  rw [if_neg (by rw [h]; decide), get_bang hx, s2]
  unfold startG
  rw [h2]
  rfl
theorem val_start {gs : List G} {nm : Str} {r : JRef} (h : startE gs nm r = 0) : Val (startL gs nm r) := by
  obtain ⟨hv, _⟩ := startE_ok h
  obtain ⟨A, x, B, t, e1, e2, hn, h1, h2⟩ := start_split h
  have hjx : jobsG x = r :: t := by unfold jobsG; rw [if_pos h1, h2]
  have hrz : r ≠ zR := job_ne (hv.job r (all_mem.2 ⟨x, by rw [e1]; simp, by rw [hjx]; simp⟩))
  have hj2 : jobsG ⟨x.name, r, t⟩ = r :: t := by unfold jobsG; rw [if_neg hrz]
  have hall : allG (startL gs nm r) = allG gs := by rw [e2, e1, all_app, all_app, all_cons, all_cons, hjx, hj2]
  have hmem : ∀ g ∈ startL gs nm r, g = ⟨x.name, r, t⟩ ∨ g ∈ gs := fun g hg => by
    rw [e2] at hg
    rw [e1]
    rcases List.mem_append.1 hg with h | h
    · exact Or.inr (by simp [h])
    · rcases List.mem_cons.1 h with h | h
      · exact Or.inl h
      · exact Or.inr (by simp [h])
  refine ⟨fun g hg => ?_, ?_, fun g hg => ?_, by rw [hall]; exact hv.len, by rw [hall]; exact hv.nodup, fun s hs => hv.job s (by rw [← hall]; exact hs)⟩
  · rcases hmem g hg with h | h
    · rw [h]; exact hv.path x (by rw [e1]; simp)
    · exact hv.path g h
  · have hp := asc_pair.1 hv.asc
    rw [asc_pair, e2]
    rw [e1] at hp
    rw [List.pairwise_append, List.pairwise_cons] at hp ⊢
    refine ⟨hp.1, ⟨hp.2.1.1, hp.2.1.2⟩, fun a ha b hb => ?_⟩
    rcases List.mem_cons.1 hb with h | h
    · rw [h]; exact hp.2.2 a ha x (by simp)
    · exact hp.2.2 a ha b (by simp [h])
  · rcases hmem g hg with h | h
    · rw [h, hj2]; simp
    · exact hv.some g h
end Go.Proofs.YtbellobjajnlkaaDoor

namespace Go.Proofs.YtbellobjajnlkaaDoor
open Go.RowKit

/-- The last place of a job, -1 if there is none; the first one. -/
def lastR : List JRef → JRef → Int
  | [], _ => -1
  | x :: l, r => if x = r then (l.length : Int) else lastR l r
def lastI (l : List JRef) (r : JRef) : Int := lastR l.reverse r
theorem lastR_lt : ∀ (l : List JRef) (r : JRef), lastR l r < l.length ∧ -1 ≤ lastR l r
  | [], _ => by simp [lastR]
  | x :: l, r => by
    have := lastR_lt l r
    unfold lastR
    split <;> simp only [List.length_cons] <;> omega
theorem last_lt (l : List JRef) (r : JRef) : lastI l r < l.length := by
  have := (lastR_lt l.reverse r).1
  rwa [List.length_reverse] at this
theorem last_snoc (l : List JRef) (x r : JRef) : lastI (l ++ [x]) r = if x = r then (l.length : Int) else lastI l r := by
  unfold lastI
  rw [List.reverse_append, List.reverse_singleton, List.singleton_append, lastR, List.length_reverse]
theorem last_nil (r : JRef) : lastI [] r = -1 := rfl
def idxI (l : List JRef) (r : JRef) : Int := if l.findIdx (fun x => decide (x = r)) < l.length then (l.findIdx (fun x => decide (x = r)) : Int) else -1
theorem idx_at {l : List JRef} {r : JRef} {k : Nat} (h : ∀ j y, j < k → l[j]? = some y → y ≠ r) (hx : l[k]? = some r) : idxI l r = k := by
  obtain ⟨hk, e⟩ := List.getElem?_eq_some_iff.1 hx
  have hf : l.findIdx (fun x => decide (x = r)) = k := by
    refine (List.findIdx_eq hk).2 ⟨by simpa using e, fun j hj => ?_⟩
    have := h j _ hj (List.getElem?_eq_getElem (by omega))
    simpa using this
  unfold idxI
  rw [hf, if_pos hk]
theorem idx_none {l : List JRef} {r : JRef} (h : r ∉ l) : idxI l r = -1 := by
  unfold idxI
  rw [if_neg]
  rw [List.findIdx_lt_length]
  rintro ⟨x, hx, e⟩
  have : x = r := by simpa using e
  exact h (this ▸ hx)
theorem idx_mem {l : List JRef} {r : JRef} (h : r ∈ l) : 0 ≤ idxI l r := by
  unfold idxI
  rw [if_pos (List.findIdx_lt_length.2 ⟨r, h, by simp⟩)]
  omega
theorem idx_end {l : List JRef} {r : JRef} (h : r ∉ l) : idxI (l ++ [r]) r = (l.length : Int) := by
  refine idx_at (fun j y hj hy e => ?_) (by simp)
  rw [List.getElem?_append_left hj] at hy
  exact h (e ▸ List.mem_of_getElem? hy)

/-- The waiting jobs of each group stand in the order of their arrival. -/
def InOrder (arr : List JRef) (gs : List G) : Prop := ∀ g ∈ gs, g.wait.Pairwise fun a b => lastI arr a < lastI arr b
theorem order_nil (arr : List JRef) : InOrder arr [] := fun g hg => absurd hg (by simp)
theorem mem_wait {g : G} {r : JRef} (h : r ∈ g.wait) : r ∈ jobsG g := by
  unfold jobsG
  split
  · exact h
  · exact List.mem_cons_of_mem _ h
theorem order_enter {arr : List JRef} {gs : List G} {nm : Str} {r : JRef} {p : Int} (h : enterE gs nm r p = 0) (ho : InOrder arr gs) : InOrder (arr ++ [r]) (enterL gs nm r p) := by
  obtain ⟨hv, hj, _, _, _, hr, _⟩ := enterE_ok h
  have hold : ∀ g ∈ gs, ∀ s ∈ g.wait, lastI (arr ++ [r]) s = lastI arr s := fun g hg s hs => by
    rw [last_snoc, if_neg]
    intro e
    exact hr (all_mem.2 ⟨g, hg, by rw [e]; exact mem_wait hs⟩)
  have hkeep : ∀ g ∈ gs, g.wait.Pairwise fun a b => lastI (arr ++ [r]) a < lastI (arr ++ [r]) b := fun g hg => by
    refine (ho g hg).imp_of_mem fun {a b} ha hb hab => ?_
    rw [hold g hg a ha, hold g hg b hb]
    exact hab
  intro g hg
  rcases enter_mem h hg with e | ⟨h1, _⟩
  · subst e
    obtain ⟨A, m, B, e, _, hm⟩ := enter_split h
    rcases hm with ⟨_, hg2, _⟩ | ⟨x, rfl, _, hg2, hx⟩
    · rw [hg2]
      unfold joinG
      rw [if_pos ⟨rfl, rfl⟩]
      exact List.Pairwise.nil
    · have hxm : x ∈ gs := by rw [e]; simp
      rw [hg2, join_old hx]
      show ((if p = 0 then x.wait else []) ++ [r]).Pairwise _
      split
      · rw [List.pairwise_append]
        refine ⟨hkeep x hxm, List.pairwise_singleton _ _, fun a ha b hb => ?_⟩
        obtain rfl : b = r := by simpa using hb
        rw [hold x hxm a ha, last_snoc, if_pos rfl]
        exact last_lt _ _
      · exact List.pairwise_singleton _ _
  · exact hkeep g h1
theorem order_leave {arr : List JRef} {gs : List G} {r : JRef} (hv : Val gs) (ho : InOrder arr gs) : InOrder arr (leaveL gs r) := fun h hh => by
  obtain ⟨g, hg, rfl, _⟩ := leave_mem hv hh
  exact (ho g hg).sublist List.filter_sublist
theorem order_start {arr : List JRef} {gs : List G} {nm : Str} {r : JRef} (h : startE gs nm r = 0) (ho : InOrder arr gs) : InOrder arr (startL gs nm r) := by
  obtain ⟨A, x, B, t, e1, e2, hn, h1, h2⟩ := start_split h
  intro g hg
  rw [e2] at hg
  rcases List.mem_append.1 hg with h | h
  · exact ho g (by rw [e1]; simp [h])
  · rcases List.mem_cons.1 h with h | h
    · have hx := ho x (by rw [e1]; simp)
      rw [h2, List.pairwise_cons] at hx
      rw [h]
      exact hx.2
    · exact ho g (by rw [e1]; simp [h])

/-- What the law on the order asks of a step, for one group of the list before it. -/
structure StepOk (keep : Bool) (arr : List JRef) (next : List G) (g : G) : Prop where
  stays : g.rn ≠ zR → keep = true → ∃ h ∈ next, h.name = g.name ∧ h.rn = g.rn
  begins : ∀ h ∈ next, h.name = g.name → g.rn = zR → h.rn ≠ zR → ∀ s ∈ h.wait, ¬ lastI arr s < lastI arr h.rn
theorem step_same {keep : Bool} {arr : List JRef} {gs : List G} (ha : AscN gs) {g : G} (hg : g ∈ gs) : StepOk keep arr gs g :=
  ⟨fun _ _ => ⟨g, hg, rfl, rfl⟩, fun h hh hn h1 h2 => absurd (by rw [name_one ha hh hg hn]; exact h1) h2⟩
theorem step_enter {keep : Bool} {arr : List JRef} {gs : List G} {nm : Str} {r : JRef} {p : Int} (h : enterE gs nm r p = 0) {g : G} (hg : g ∈ gs) : StepOk keep arr (enterL gs nm r p) g := by
  obtain ⟨hv, hj, _⟩ := enterE_ok h
  have hvn := val_enter h
  obtain ⟨A, m, B, e, ep, hm⟩ := enter_split h
  by_cases hn : g.name = nm
  · have hgx : getG gs nm = g ∧ jobsG g ≠ [] := by
      rcases hm with ⟨rfl, _, hno⟩ | ⟨x, rfl, hxn, hgx, hx⟩
      · exact absurd hn (no_at hv.asc hno g hg)
      · have : x = g := name_one hv.asc (by rw [e]; simp) hg (by rw [hxn, hn])
        exact ⟨by rw [hgx, this], by rw [← this]; exact hx⟩
    have hjm : joinG g r p ∈ enterL gs nm r p := by rw [ep, hgx.1]; simp
    refine ⟨fun _ _ => ⟨_, hjm, joinG_name _ _ _, by rw [join_old hgx.2]⟩, fun h hh hhn h1 h2 => ?_⟩
    have : h = joinG g r p := name_one hvn.asc hh hjm (by rw [hhn, joinG_name])
    rw [this, join_old hgx.2] at h2
    exact absurd h1 h2
  · have hgn : g ∈ enterL gs nm r p := by
      rw [ep]
      rw [e] at hg
      rcases List.mem_append.1 hg with h3 | h3
      · rcases List.mem_append.1 h3 with h4 | h4
        · simp [h4]
        · rcases hm with ⟨rfl, _⟩ | ⟨x, rfl, hxn, _⟩
          · simp at h4
          · obtain rfl : g = x := by simpa using h4
            exact absurd hxn hn
      · simp [h3]
    exact ⟨fun _ _ => ⟨g, hgn, rfl, rfl⟩, fun h hh hhn h1 h2 => absurd (by rw [name_one hvn.asc hh hgn hhn]; exact h1) h2⟩
theorem step_start {keep : Bool} {arr : List JRef} {gs : List G} {nm : Str} {r : JRef} (h : startE gs nm r = 0) (ho : InOrder arr gs) {g : G} (hg : g ∈ gs) : StepOk keep arr (startL gs nm r) g := by
  obtain ⟨hv, _⟩ := startE_ok h
  have hvn := val_start h
  obtain ⟨A, x, B, t, e1, e2, hn, h1, h2⟩ := start_split h
  have hxm : x ∈ gs := by rw [e1]; simp
  by_cases hgx : g = x
  · subst hgx
    refine ⟨fun h3 => absurd h1 h3, fun h hh hhn _ _ => ?_⟩
    have : h = ⟨g.name, r, t⟩ := name_one hvn.asc hh (by rw [e2]; simp) hhn
    subst this
    intro s hs
    have hx := ho g hg
    rw [h2, List.pairwise_cons] at hx
    have := hx.1 s hs
    show ¬ lastI arr s < lastI arr r
    omega
  · have hgn : g ∈ startL gs nm r := by
      rw [e2]
      rw [e1] at hg
      rcases List.mem_append.1 hg with h3 | h3
      · simp [h3]
      · rcases List.mem_cons.1 h3 with h4 | h4
        · exact absurd h4 hgx
        · simp [h4]
    exact ⟨fun _ _ => ⟨g, hgn, rfl, rfl⟩, fun h hh hhn h1 h2 => absurd (by rw [name_one hvn.asc hh hgn hhn]; exact h1) h2⟩
theorem step_leave {arr : List JRef} {gs : List G} {r : JRef} (hv : Val gs) {g : G} (hg : g ∈ gs) : StepOk false arr (leaveL gs r) g := by
  refine ⟨fun _ h => (by cases h), fun h hh hhn h1 h2 => ?_⟩
  obtain ⟨g', hg', rfl, _⟩ := leave_mem hv hh
  have : g' = g := name_one hv.asc hg' hg hhn
  subst this
  refine absurd ?_ h2
  unfold dropG
  show (if g'.rn = r then zR else g'.rn) = zR
  split
  · rfl
  · exact h1

/-! What entering leaves. -/
theorem enter_get {gs : List G} {nm : Str} {r : JRef} {p : Int} (h : enterE gs nm r p = 0) : hasN nm (enterL gs nm r p) = true ∧ findN nm (enterL gs nm r p) = (atN nm (enterL gs nm r p) : Int) ∧ (enterL gs nm r p)[atN nm (enterL gs nm r p)]? = some (joinG (getG gs nm) r p) := by
  obtain ⟨A, m, B, e, ep, _⟩ := enter_split h
  have hm : joinG (getG gs nm) r p ∈ enterL gs nm r p := by rw [ep]; simp
  have hn : (joinG (getG gs nm) r p).name = nm := by rw [joinG_name, getG_name]
  have := has_mem (val_enter h).asc hm
  rwa [hn] at this
/-- The group that a job has entered: it runs there alone, or waits there last. -/
theorem enter_group {gs : List G} {nm : Str} {r : JRef} {p : Int} (h : enterE gs nm r p = 0) :
    (enterRun gs nm r p = true ∧ (joinG (getG gs nm) r p).rn = r) ∨ (enterRun gs nm r p = false ∧ (joinG (getG gs nm) r p).rn ≠ r ∧ ∃ l, (joinG (getG gs nm) r p).wait = l ++ [r] ∧ r ∉ l ∧ (p ≠ 0 → l = [])) := by
  obtain ⟨hv, hj, _, _, _, hr, _⟩ := enterE_ok h
  obtain ⟨A, m, B, e, ep, hm⟩ := enter_split h
  have hrun : enterRun gs nm r p = joinRun (getG gs nm) := by unfold enterRun; rw [if_neg (by rw [h]; decide)]
  rw [hrun]
  rcases hm with ⟨_, hg, _⟩ | ⟨x, rfl, _, hg, hx⟩
  · left
    rw [hg]
    exact ⟨rfl, by unfold joinG; rw [if_pos ⟨rfl, rfl⟩]⟩
  · right
    have hxm : x ∈ gs := by rw [e]; simp
    rw [hg, join_old hx]
    have hnr : ∀ s ∈ jobsG x, s ≠ r := fun s hs e2 => hr (all_mem.2 ⟨x, hxm, e2 ▸ hs⟩)
    refine ⟨?_, ?_, (if p = 0 then x.wait else []), rfl, ?_, fun hp => if_neg hp⟩
    · unfold joinRun
      rw [Bool.eq_false_iff]
      intro h3
      simp only [Bool.and_eq_true, decide_eq_true_eq] at h3
      unfold jobsG at hx
      rw [if_pos h3.1] at hx
      exact hx h3.2
    · by_cases hz : x.rn = zR
      · show x.rn ≠ r
        rw [hz]
        exact (job_ne hj).symm
      · exact hnr x.rn (by unfold jobsG; rw [if_neg hz]; simp)
    · split
      · exact fun h3 => hnr r (mem_wait h3) rfl
      · simp
/-- No job is lost that was not cancelled. -/
theorem enter_keeps {gs : List G} {nm : Str} {r : JRef} {p : Int} (h : enterE gs nm r p = 0) {s : JRef} (hs : s ∈ allG gs) : s ∈ allG (enterL gs nm r p) ∨ s ∈ enterCan gs nm r p := by
  obtain ⟨A, m, B, e, ep, hm⟩ := enter_split h
  have hcan : enterCan gs nm r p = joinCan (getG gs nm) p := by unfold enterCan; rw [if_neg (by rw [h]; decide)]
  rw [e, all_app, all_app] at hs
  rw [ep, all_app, all_cons, hcan]
  rcases List.mem_append.1 hs with h1 | h1
  · rcases List.mem_append.1 h1 with h2 | h2
    · left; simp [h2]
    · rcases hm with ⟨rfl, _⟩ | ⟨x, rfl, _, hg, hx⟩
      · simp [all_nil] at h2
      · rw [all_cons, all_nil, List.append_nil] at h2
        rw [hg, join_old hx]
        have hne : ¬ (x.rn = zR ∧ x.wait = []) := fun h3 => by
          unfold jobsG at hx
          rw [if_pos h3.1] at hx
          exact hx h3.2
        have hwait : s ∈ x.wait → s ∈ jobsG { x with wait := (if p = 0 then x.wait else []) ++ [r] } ∨ s ∈ joinCan x p := fun hw => by
          by_cases hp : p = 0
          · left
            refine mem_wait ?_
            show s ∈ (if p = 0 then x.wait else []) ++ [r]
            rw [if_pos hp]; simp [hw]
          · right
            unfold joinCan
            rw [if_neg hne, if_neg hp]; simp [hw]
        have hcases : s ∈ jobsG { x with wait := (if p = 0 then x.wait else []) ++ [r] } ∨ s ∈ joinCan x p := by
          unfold jobsG at h2
          split at h2
          · exact hwait h2
          · rename_i hz
            rcases List.mem_cons.1 h2 with h3 | h3
            · left
              unfold jobsG
              rw [if_neg (by exact hz)]
              simp [h3]
            · exact hwait h3
        rcases hcases with h3 | h3
        · left; simp [h3]
        · right; exact h3
  · left; simp [h1]
end Go.Proofs.YtbellobjajnlkaaDoor
