/-
  Plain laws of the library's stable sort: the merge of two sorted blocks is sorted; it is the same by two orders that agree on an element of the second block against one of the first.
-/
import Derived.Test.YtnhfbignnnicnaaDoorStab
namespace Go.Proofs.YtnhfbignnnicnaaDoor
open Go.Sort

section
variable {α : Type} [Inhabited α] {lt : α → α → Bool}

omit [Inhabited α] in
theorem lt_le (hS : SWO lt) {x y z : α} (h1 : lt x y = true) (h2 : lt z y = false) : lt x z = true := by
  cases h : lt x z with
  | true => rfl
  | false => have := hS.ntrans x z y h h2; rw [h1] at this; cases this
omit [Inhabited α] in
theorem le_lt (hS : SWO lt) {x y z : α} (h1 : lt y x = false) (h2 : lt y z = true) : lt x z = true := by
  cases h : lt x z with
  | true => rfl
  | false => have := hS.ntrans y x z h1 h; rw [h2] at this; cases this

theorem sortedIn_le (hS : SWO lt) {a b : Nat} {d : Array α} (h : SortedIn lt a b d) {i j : Nat} (h1 : a ≤ i) (h2 : i ≤ j) (h3 : j < b) : lt d[j]! d[i]! = false := by
  rcases Nat.lt_or_ge i j with h4 | h4
  · exact h i j h1 h4 h3
  · obtain rfl : i = j := by omega
    exact hS.irrefl _

theorem permIn_size {a b : Nat} {d d' : Array α} (h : PermIn a b d d') : d'.size = d.size := h.1

/-- The row behind the merge's rotation. -/
theorem rotd_get {a m b s : Nat} (d : Array α) (hs1 : s ≤ m) (hs2 : s ≤ mid2 a b) (hsz : mid2 a b + m - s ≤ d.size) (hme : m ≤ mid2 a b + m - s) (x : Nat) :
    (if s < m ∧ m < mid2 a b + m - s then rot m (m - s) (mid2 a b + m - s - m) d else d)[x]! = if s ≤ x ∧ x < mid2 a b then d[x + (m - s)]! else if mid2 a b ≤ x ∧ x < mid2 a b + m - s then d[x - (mid2 a b - s)]! else d[x]! := by
  split
  · rename_i h
    rw [rot_get m _ _ _ d rfl (by omega) (by omega)]
    (repeat' split) <;> first | rfl | (exfalso; omega) | (congr 1; omega)
  · rename_i h
    (repeat' split) <;> first | rfl | (exfalso; omega) | (congr 1; omega)

theorem rotd_perm {a m b s : Nat} (d : Array α) (ha : a ≤ s) (_hs1 : s ≤ m) (hb : mid2 a b + m - s ≤ b) (hsz : b ≤ d.size) :
    PermIn a b d (if s < m ∧ m < mid2 a b + m - s then rot m (m - s) (mid2 a b + m - s - m) d else d) := by
  split
  · exact rot_perm a b m _ _ _ d rfl (by omega) (by omega) (by omega) hsz
  · exact permIn_refl _ _ _

theorem symF_perm (lt : α → α → Bool) : ∀ (f a m b : Nat) (d : Array α), a < m → m < b → b ≤ d.size → PermIn a b d (symF lt f a m b d) := by
  intro f
  induction f with
  | zero => intro a m b d _ _ _; exact permIn_refl _ _ _
  | succ f ih =>
    intro a m b d h1 h2 hs
    unfold symF
    split
    · have := bsr_range (fun h => lt d[h]! d[a]!) _ m b rfl (by omega)
      exact mvUp_perm a b _ _ _ _ rfl (Nat.le_refl _) (by omega) hs
    · split
      · have := bsr_range (fun h => !lt d[m]! d[h]!) _ a m rfl (by omega)
        exact mvDn_perm a b _ _ _ _ rfl (by omega) h2 hs
      · have hr := sm_range h1 h2
        have hS := smS_range lt d h1 h2
        generalize smS lt d a m b = s at hS
        simp only
        have p1 := rotd_perm (a := a) (b := b) (m := m) (s := s) d (by omega) (by omega) (by omega) hs
        generalize (if s < m ∧ m < mid2 a b + m - s then rot m (m - s) (mid2 a b + m - s - m) d else d) = d1 at p1
        have hz1 := p1.1
        have p2 : PermIn a b d (if a < s ∧ s < mid2 a b then symF lt f a s (mid2 a b) d1 else d1) := by
          split
          · rename_i h
            exact permIn_trans _ _ _ a b p1 (permIn_mono _ _ a (mid2 a b) a b (Nat.le_refl _) (by omega) (by omega) (ih a s (mid2 a b) d1 h.1 h.2 (by omega)))
          · exact p1
        generalize (if a < s ∧ s < mid2 a b then symF lt f a s (mid2 a b) d1 else d1) = d2 at p2
        have hz2 := p2.1
        split
        · rename_i h
          exact permIn_trans _ _ _ a b p2 (permIn_mono _ _ (mid2 a b) b a b (by omega) (Nat.le_refl _) (by omega) (ih (mid2 a b) _ b d2 h.1 h.2 (by omega)))
        · exact p2

theorem symF_size (lt : α → α → Bool) {f a m b : Nat} {d : Array α} (h1 : a < m) (h2 : m < b) (hs : b ≤ d.size) : (symF lt f a m b d).size = d.size := (symF_perm lt f a m b d h1 h2 hs).1

theorem symF_sorted (hS : SWO lt) : ∀ (f a m b : Nat) (d : Array α), b - a ≤ f → a < m → m < b → b ≤ d.size → SortedIn lt a m d → SortedIn lt m b d → SortedIn lt a b (symF lt f a m b d) := by
  intro f
  induction f with
  | zero => intro a m b d hf h1 h2; omega
  | succ f ih =>
    intro a m b d hf h1 h2 hs sA sB
    unfold symF
    by_cases c1 : m - a = 1
    · rw [if_pos c1]
      obtain ⟨b1, b2, b3, b4⟩ := bsr_spec (fun h => lt d[h]! d[a]!) _ m b rfl (by omega) (fun c c' g1 g2 g3 g4 => hS.ntrans _ _ _ (sortedIn_le hS sB g1 g2 g3) g4)
      generalize bsr (fun h => lt d[h]! d[a]!) m b = i at b1 b2 b3 b4
      have g := mvUp_get (i - 1) _ a d rfl (by omega) (by omega)
      intro x y hx hxy hy
      rw [g, g]
      by_cases hy1 : y = i - 1
      · rw [if_pos hy1, if_neg (by omega), if_pos (by omega)]
        exact hS.asymmA (b3 (x + 1) (by omega) (by omega))
      · rw [if_neg hy1]
        by_cases hx1 : x = i - 1
        · rw [if_pos hx1, if_neg (by omega)]
          exact b4 y (by omega) hy
        · rw [if_neg hx1]
          by_cases hy2 : a ≤ y ∧ y < i - 1
          · rw [if_pos hy2, if_pos (by omega)]
            exact sB (x + 1) (y + 1) (by omega) (by omega) (by omega)
          · rw [if_neg hy2]
            by_cases hx2 : a ≤ x ∧ x < i - 1
            · rw [if_pos hx2]
              exact sB (x + 1) y (by omega) (by omega) (by omega)
            · rw [if_neg hx2]
              exact sB x y (by omega) (by omega) (by omega)
    · rw [if_neg c1]
      by_cases c2 : b - m = 1
      · rw [if_pos c2]
        obtain ⟨b1, b2, b3, b4⟩ := bsr_spec (fun h => !lt d[m]! d[h]!) _ a m rfl (by omega) (fun c c' g1 g2 g3 g4 => by
          simp only [Bool.not_eq_false'] at g4 ⊢
          exact lt_le hS g4 (sortedIn_le hS sA g1 g2 g3))
        simp only [Bool.not_eq_true', Bool.not_eq_false'] at b3 b4
        generalize bsr (fun h => !lt d[m]! d[h]!) a m = i at b1 b2 b3 b4
        have g := mvDn_get i _ m d rfl (by omega) (by omega)
        intro x y hx hxy hy
        rw [g, g]
        by_cases hy1 : y = i
        · rw [if_pos hy1, if_neg (by omega), if_neg (by omega)]
          exact b3 x (by omega) (by omega)
        · rw [if_neg hy1]
          by_cases hx1 : x = i
          · rw [if_pos hx1, if_pos (by omega)]
            exact hS.asymmA (b4 (y - 1) (by omega) (by omega))
          · rw [if_neg hx1]
            by_cases hy2 : i < y ∧ y ≤ m
            · rw [if_pos hy2]
              by_cases hx2 : i < x ∧ x ≤ m
              · rw [if_pos hx2]
                exact sA (x - 1) (y - 1) (by omega) (by omega) (by omega)
              · rw [if_neg hx2]
                exact sA x (y - 1) (by omega) (by omega) (by omega)
            · rw [if_neg hy2, if_neg (by omega)]
              exact sA x y (by omega) (by omega) (by omega)
      · rw [if_neg c2]
        have hr := sm_range h1 h2
        have hR := smS_range lt d h1 h2
        have q1 : ∀ c, sm0 a m b ≤ c → c < smS lt d a m b → lt d[mid2 a b + m - 1 - c]! d[c]! = false := by
          intro c g1 g2
          have := (bsr_spec (smq lt d (mid2 a b + m - 1)) _ (sm0 a m b) (sm1 a m b) rfl hr.2.1 (fun c c' k1 k2 k3 k4 => by
            unfold smq at k4 ⊢
            simp only [Bool.not_eq_false'] at k4 ⊢
            refine lt_le hS (le_lt hS (sortedIn_le hS sB ?_ ?_ ?_) k4) (sortedIn_le hS sA ?_ k2 ?_) <;> first | omega | (unfold sm0 sm1 mid2 at *; split at * <;> omega))).2.2.1 c g1 g2
          unfold smq at this
          simpa using this
        have q2 : ∀ c, smS lt d a m b ≤ c → c < sm1 a m b → lt d[mid2 a b + m - 1 - c]! d[c]! = true := by
          intro c g1 g2
          have := (bsr_spec (smq lt d (mid2 a b + m - 1)) _ (sm0 a m b) (sm1 a m b) rfl hr.2.1 (fun c c' k1 k2 k3 k4 => by
            unfold smq at k4 ⊢
            simp only [Bool.not_eq_false'] at k4 ⊢
            refine lt_le hS (le_lt hS (sortedIn_le hS sB ?_ ?_ ?_) k4) (sortedIn_le hS sA ?_ k2 ?_) <;> first | omega | (unfold sm0 sm1 mid2 at *; split at * <;> omega))).2.2.2 c g1 g2
          unfold smq at this
          simpa using this
        have hst : smS lt d a m b = sm0 a m b → smS lt d a m b = a ∨ mid2 a b + m - smS lt d a m b = b := by
          intro e
          have hmm : mid2 a b = (a + b) / 2 := rfl
          rw [e]; unfold sm0; split <;> omega
        have hen : smS lt d a m b = sm1 a m b → smS lt d a m b = m ∨ mid2 a b + m - smS lt d a m b = m := by
          intro e; rw [e]; unfold sm1; split <;> omega
        generalize smS lt d a m b = s at hR q1 q2 hst hen
        simp only
        have g1 := rotd_get (a := a) (b := b) (m := m) (s := s) d (by omega) (by omega) (by omega) (by omega)
        have p1 := rotd_perm (a := a) (b := b) (m := m) (s := s) d (by omega) (by omega) (by omega) hs
        generalize (if s < m ∧ m < mid2 a b + m - s then rot m (m - s) (mid2 a b + m - s - m) d else d) = d1 at g1 p1
        have hz1 := p1.1
        obtain ⟨e, he⟩ : ∃ e, mid2 a b + m - s = e := ⟨_, rfl⟩
        rw [he] at g1 hst hen ⊢
        -- what the four parts are
        have S1 : SortedIn lt a s d1 := fun x y k1 k2 k3 => by
          rw [g1, g1, if_neg (by omega), if_neg (by omega), if_neg (by omega), if_neg (by omega)]
          exact sA x y k1 k2 (by omega)
        have S2 : SortedIn lt s (mid2 a b) d1 := fun x y k1 k2 k3 => by
          rw [g1, g1, if_pos (by omega), if_pos (by omega)]
          exact sB _ _ (by omega) (by omega) (by omega)
        have S3 : SortedIn lt (mid2 a b) e d1 := fun x y k1 k2 k3 => by
          rw [g1, g1, if_neg (by omega), if_pos (by omega), if_neg (by omega), if_pos (by omega)]
          exact sA _ _ (by omega) (by omega) (by omega)
        have S4 : SortedIn lt e b d1 := fun x y k1 k2 k3 => by
          rw [g1, g1, if_neg (by omega), if_neg (by omega), if_neg (by omega), if_neg (by omega)]
          exact sB _ _ (by omega) (by omega) (by omega)
        have X : ∀ x y, a ≤ x → x < mid2 a b → mid2 a b ≤ y → y < b → lt d1[y]! d1[x]! = false := by
          intro x y k1 k2 k3 k4
          rw [g1, g1]
          by_cases hx : x < s
          · rw [if_neg (show ¬ (s ≤ y ∧ y < mid2 a b) by omega), if_neg (show ¬ (s ≤ x ∧ x < mid2 a b) by omega), if_neg (show ¬ (mid2 a b ≤ x ∧ x < e) by omega)]
            by_cases hy : y < e
            · rw [if_pos (show mid2 a b ≤ y ∧ y < e by omega)]
              exact sA _ _ k1 (by omega) (by omega)
            · rw [if_neg (show ¬ (mid2 a b ≤ y ∧ y < e) by omega)]
              have hs0 : sm0 a m b < s := by
                rcases Nat.lt_or_ge (sm0 a m b) s with h | h
                · exact h
                · have := hst (by omega); omega
              have hq := q1 (s - 1) (by omega) (by omega)
              rw [show mid2 a b + m - 1 - (s - 1) = e by omega] at hq
              exact hS.ntrans _ _ _ (sortedIn_le hS sB (by omega) (show e ≤ y by omega) k4) (hS.ntrans _ _ _ hq (sortedIn_le hS sA k1 (show x ≤ s - 1 by omega) (by omega)))
          · rw [if_neg (show ¬ (s ≤ y ∧ y < mid2 a b) by omega), if_pos (show s ≤ x ∧ x < mid2 a b by omega)]
            by_cases hy : y < e
            · rw [if_pos (show mid2 a b ≤ y ∧ y < e by omega)]
              have hs1 : s < sm1 a m b := by
                rcases Nat.lt_or_ge s (sm1 a m b) with h | h
                · exact h
                · have := hen (by omega); omega
              have hq := q2 s (Nat.le_refl _) hs1
              have hle := sortedIn_le hS sB (i := x + (m - s)) (j := mid2 a b + m - 1 - s) (by omega) (by omega) (by omega)
              have h5 := le_lt hS hle hq
              exact hS.asymmA (lt_le hS h5 (sortedIn_le hS sA (by omega) (show s ≤ y - (mid2 a b - s) by omega) (by omega)))
            · rw [if_neg (show ¬ (mid2 a b ≤ y ∧ y < e) by omega)]
              exact sB _ _ (by omega) (by omega) (by omega)
        -- the left half
        have L : ∃ d2, (if a < s ∧ s < mid2 a b then symF lt f a s (mid2 a b) d1 else d1) = d2 ∧ PermIn a (mid2 a b) d1 d2 ∧ SortedIn lt a (mid2 a b) d2 := by
          refine ⟨_, rfl, ?_⟩
          split
          · rename_i h
            exact ⟨symF_perm lt f a s _ d1 h.1 h.2 (by omega), ih a s _ d1 (by omega) h.1 h.2 (by omega) S1 S2⟩
          · refine ⟨permIn_refl _ _ _, ?_⟩
            by_cases h : a = s
            · subst h; exact S2
            · obtain rfl : s = mid2 a b := by omega
              exact S1
        obtain ⟨d2, hd2, P2, T2⟩ := L
        rw [hd2]
        have hz2 := P2.1
        have eqR : ∀ y, mid2 a b ≤ y → d2[y]! = d1[y]! := fun y hy => P2.2.1 y (Or.inr hy)
        have S3' : SortedIn lt (mid2 a b) e d2 := fun x y k1 k2 k3 => by rw [eqR x k1, eqR y (by omega)]; exact S3 x y k1 k2 k3
        have S4' : SortedIn lt e b d2 := fun x y k1 k2 k3 => by rw [eqR x (by omega), eqR y (by omega)]; exact S4 x y k1 k2 k3
        have X2 : ∀ y, mid2 a b ≤ y → y < b → ∀ x, a ≤ x → x < mid2 a b → lt d2[y]! d2[x]! = false := fun y k3 k4 => by
          rw [eqR y k3]
          exact permIn_all d1 d2 a (mid2 a b) (fun z => lt d1[y]! z = false) (by omega) P2 fun x k1 k2 => X x y k1 k2 k3 k4
        have R : ∃ d3, (if mid2 a b < e ∧ e < b then symF lt f (mid2 a b) e b d2 else d2) = d3 ∧ PermIn (mid2 a b) b d2 d3 ∧ SortedIn lt (mid2 a b) b d3 := by
          refine ⟨_, rfl, ?_⟩
          split
          · rename_i h
            have hmm : mid2 a b = (a + b) / 2 := rfl
            exact ⟨symF_perm lt f _ e b d2 h.1 h.2 (by omega), ih (mid2 a b) e b d2 (by omega) h.1 h.2 (by omega) S3' S4'⟩
          · refine ⟨permIn_refl _ _ _, ?_⟩
            by_cases h : mid2 a b = e
            · rw [h]; exact S4'
            · obtain rfl : e = b := by omega
              exact S3'
        obtain ⟨d3, hd3, P3, T3⟩ := R
        rw [hd3]
        have eqL : ∀ x, x < mid2 a b → d3[x]! = d2[x]! := fun x hx => P3.2.1 x (Or.inl hx)
        intro x y k1 k2 k3
        by_cases hy : y < mid2 a b
        · rw [eqL x (by omega), eqL y hy]
          exact T2 x y k1 k2 hy
        · by_cases hx : x < mid2 a b
          · rw [eqL x hx]
            exact permIn_all d2 d3 (mid2 a b) b (fun z => lt z d2[x]! = false) (by omega) P3 (fun z k5 k6 => X2 z k5 k6 x k1 hx) y (by omega) k3
          · exact T3 x y (by omega) k2 k3

/-- Two orders that agree on an element of the second block against one of the first: the same merge. -/
theorem symF_congr {l1 l2 : α → α → Bool} : ∀ (f a m b : Nat) (d : Array α), a < m → m < b → b ≤ d.size → (∀ i j, a ≤ i → i < m → m ≤ j → j < b → l1 d[j]! d[i]! = l2 d[j]! d[i]!) → symF l1 f a m b d = symF l2 f a m b d := by
  intro f
  induction f with
  | zero => intros; rfl
  | succ f ih =>
    intro a m b d h1 h2 hs hq
    unfold symF
    have e1 : bsr (fun h => l1 d[h]! d[a]!) m b = bsr (fun h => l2 d[h]! d[a]!) m b := bsr_congr _ _ _ _ _ rfl fun c k1 k2 => hq a c (by omega) h1 k1 k2
    have e2 : bsr (fun h => !l1 d[m]! d[h]!) a m = bsr (fun h => !l2 d[m]! d[h]!) a m := bsr_congr _ _ _ _ _ rfl fun c k1 k2 => by rw [hq c m k1 k2 (Nat.le_refl _) h2]
    have hr := sm_range h1 h2
    have e3 : smS l1 d a m b = smS l2 d a m b := by
      unfold smS
      refine bsr_congr _ _ _ _ _ rfl fun c k1 k2 => ?_
      unfold smq
      rw [hq c _ (by omega) (by omega)] <;> first | omega | (unfold sm0 sm1 mid2 at *; split at * <;> omega)
    rw [e1, e2, e3]
    split
    · rfl
    · split
      · rfl
      · have hR := smS_range l2 d h1 h2
        generalize smS l2 d a m b = s at hR
        simp only
        have g1 := rotd_get (a := a) (b := b) (m := m) (s := s) d (by omega) (by omega) (by omega) (by omega)
        have p1 := rotd_perm (a := a) (b := b) (m := m) (s := s) d (by omega) (by omega) (by omega) hs
        generalize (if s < m ∧ m < mid2 a b + m - s then rot m (m - s) (mid2 a b + m - s - m) d else d) = d1 at g1 p1
        have hz1 := p1.1
        have L : (if a < s ∧ s < mid2 a b then symF l1 f a s (mid2 a b) d1 else d1) = (if a < s ∧ s < mid2 a b then symF l2 f a s (mid2 a b) d1 else d1) := by
          split
          · rename_i h
            refine ih a s _ d1 h.1 h.2 (by omega) fun i j k1 k2 k3 k4 => ?_
            rw [g1 i, g1 j, if_pos (show s ≤ j ∧ j < mid2 a b by omega), if_neg (show ¬ (s ≤ i ∧ i < mid2 a b) by omega), if_neg (show ¬ (mid2 a b ≤ i ∧ i < mid2 a b + m - s) by omega)]
            exact hq _ _ (by omega) (by omega) (by omega) (by omega)
          · rfl
        rw [L]
        have P2 : PermIn a (mid2 a b) d1 (if a < s ∧ s < mid2 a b then symF l2 f a s (mid2 a b) d1 else d1) := by
          split
          · rename_i h
            exact symF_perm l2 f a s _ d1 h.1 h.2 (by omega)
          · exact permIn_refl _ _ _
        generalize (if a < s ∧ s < mid2 a b then symF l2 f a s (mid2 a b) d1 else d1) = d2 at P2
        have hz2 := P2.1
        split
        · rename_i h
          refine ih _ _ b d2 h.1 h.2 (by omega) fun i j k1 k2 k3 k4 => ?_
          rw [P2.2.1 i (Or.inr k1), P2.2.1 j (Or.inr (by omega)), g1 i, g1 j, if_neg (show ¬ (s ≤ j ∧ j < mid2 a b) by omega), if_neg (show ¬ (mid2 a b ≤ j ∧ j < mid2 a b + m - s) by omega), if_neg (show ¬ (s ≤ i ∧ i < mid2 a b) by omega), if_pos (show mid2 a b ≤ i ∧ i < mid2 a b + m - s by omega)]
          exact hq _ _ (by omega) (by omega) (by omega) (by omega)
        · rfl
end
end Go.Proofs.YtnhfbignnnicnaaDoor
