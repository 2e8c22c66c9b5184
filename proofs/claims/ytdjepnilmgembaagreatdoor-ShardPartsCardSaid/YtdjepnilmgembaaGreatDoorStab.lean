/-
  Plain laws of the library's stable sort: its inner functions as plain functions on a row (blocks exchanged, blocks rotated, two sorted blocks merged), and what they leave. No program in sight.
-/
import Derived.Sort.LotA
namespace Go.Proofs.YtdjepnilmgembaaGreatDoor
open Go.Sort

section
variable {α : Type} [Inhabited α]

/-- A search by halves: the least place from i on (below j) at which q fails, where q holds and then fails. -/
def bsr (q : Nat → Bool) (i j : Nat) : Nat :=
  if _h : i < j then (if q ((i + j) / 2) then bsr q ((i + j) / 2 + 1) j else bsr q i ((i + j) / 2)) else i
termination_by j - i

theorem bsr_spec (q : Nat → Bool) : ∀ (n i j : Nat), j - i = n → i ≤ j → (∀ c c', i ≤ c → c ≤ c' → c' < j → q c = false → q c' = false) →
    i ≤ bsr q i j ∧ bsr q i j ≤ j ∧ (∀ c, i ≤ c → c < bsr q i j → q c = true) ∧ (∀ c, bsr q i j ≤ c → c < j → q c = false) := by
  intro n
  induction n using Nat.strongRecOn with
  | ind n ih =>
    intro i j hn hij hq
    rw [bsr]
    split
    · rename_i h
      split
      · rename_i hc
        obtain ⟨h1, h2, h3, h4⟩ := ih (j - ((i + j) / 2 + 1)) (by omega) ((i + j) / 2 + 1) j rfl (by omega) (fun c c' a b d e => hq c c' (by omega) b d e)
        refine ⟨by omega, h2, fun c a b => ?_, h4⟩
        by_cases hlt : (i + j) / 2 + 1 ≤ c
        · exact h3 c hlt b
        · cases hqc : q c with
          | true => rfl
          | false =>
            have := hq c ((i + j) / 2) a (by omega) (by omega) hqc
            rw [hc] at this; cases this
      · rename_i hc
        obtain ⟨h1, h2, h3, h4⟩ := ih ((i + j) / 2 - i) (by omega) i ((i + j) / 2) rfl (by omega) (fun c c' a b d e => hq c c' a b (by omega) e)
        refine ⟨h1, by omega, h3, fun c a b => ?_⟩
        by_cases hlt : c < (i + j) / 2
        · exact h4 c a hlt
        · exact hq ((i + j) / 2) c (by omega) (by omega) b (by simpa using hc)
    · exact ⟨Nat.le_refl _, hij, fun c a b => by omega, fun c a b => by omega⟩

theorem bsr_range (q : Nat → Bool) : ∀ (n i j : Nat), j - i = n → i ≤ j → i ≤ bsr q i j ∧ bsr q i j ≤ j := by
  intro n
  induction n using Nat.strongRecOn with
  | ind n ih =>
    intro i j hn hij
    rw [bsr]
    split
    · split
      · have := ih (j - ((i + j) / 2 + 1)) (by omega) ((i + j) / 2 + 1) j rfl (by omega); omega
      · have := ih ((i + j) / 2 - i) (by omega) i ((i + j) / 2) rfl (by omega); omega
    · omega

/-- Two searches that ask the same. -/
theorem bsr_congr (q q' : Nat → Bool) : ∀ (n i j : Nat), j - i = n → (∀ c, i ≤ c → c < j → q c = q' c) → bsr q i j = bsr q' i j := by
  intro n
  induction n using Nat.strongRecOn with
  | ind n ih =>
    intro i j hn hq
    rw [bsr, bsr.eq_def q']
    split
    · rw [hq ((i + j) / 2) (by omega) (by omega)]
      split
      · exact ih _ (by omega) _ _ rfl fun c a b => hq c (by omega) b
      · exact ih _ (by omega) _ _ rfl fun c a b => hq c a (by omega)
    · rfl

/-- data[k], data[k+1] exchanged, for k from k up to e. -/
def mvUp (k e : Nat) (d : Array α) : Array α := if k < e then mvUp (k + 1) e (swp d k (k + 1)) else d
termination_by e - k
/-- data[k], data[k-1] exchanged, for k from k down to e. -/
def mvDn (k e : Nat) (d : Array α) : Array α := if e < k then mvDn (k - 1) e (swp d k (k - 1)) else d
termination_by k - e
/-- data[a+i], data[b+i] exchanged, for i from i up to n. -/
def swR (a b n i : Nat) (d : Array α) : Array α := if i < n then swR a b n (i + 1) (swp d (a + i) (b + i)) else d
termination_by n - i
/-- Two blocks rotated: i elements ahead of m, j from m on. -/
def rot (m : Nat) (i j : Nat) (d : Array α) : Array α :=
  if i = j then swR (m - i) m i 0 d
  else if j < i then (if j = 0 then d else rot m (i - j) j (swR (m - i) m j 0 d))
  else (if i = 0 then d else rot m i (j - i) (swR (m - i) (m + j - i) i 0 d))
termination_by i + j

def mid2 (a b : Nat) : Nat := (a + b) / 2
/-- Where the search of the merge begins, and where it ends. -/
def sm0 (a m b : Nat) : Nat := if mid2 a b < m then mid2 a b + m - b else a
def sm1 (a m b : Nat) : Nat := if mid2 a b < m then mid2 a b else m
def smq (lt : α → α → Bool) (d : Array α) (p c : Nat) : Bool := !lt d[p - c]! d[c]!
def smS (lt : α → α → Bool) (d : Array α) (a m b : Nat) : Nat := bsr (smq lt d (mid2 a b + m - 1)) (sm0 a m b) (sm1 a m b)

theorem sm_range {a m b : Nat} (h1 : a < m) (h2 : m < b) : a ≤ sm0 a m b ∧ sm0 a m b ≤ sm1 a m b ∧ sm1 a m b ≤ m ∧ sm1 a m b ≤ mid2 a b ∧ mid2 a b + m - b ≤ sm0 a m b ∧ a ≤ mid2 a b ∧ mid2 a b < b := by
  unfold sm0 sm1 mid2
  split <;> omega
theorem smS_range (lt : α → α → Bool) (d : Array α) {a m b : Nat} (h1 : a < m) (h2 : m < b) : sm0 a m b ≤ smS lt d a m b ∧ smS lt d a m b ≤ sm1 a m b :=
  bsr_range _ _ _ _ rfl (sm_range h1 h2).2.1

/-- The merge of [a, m) and [m, b), at a depth. -/
def symF (lt : α → α → Bool) : Nat → Nat → Nat → Nat → Array α → Array α
  | 0, _, _, _, d => d
  | f + 1, a, m, b, d =>
    if m - a = 1 then mvUp a (bsr (fun h => lt d[h]! d[a]!) m b - 1) d
    else if b - m = 1 then mvDn m (bsr (fun h => !lt d[m]! d[h]!) a m) d
    else
      let s := smS lt d a m b
      let e := mid2 a b + m - s
      let d1 := if s < m ∧ m < e then rot m (m - s) (e - m) d else d
      let d2 := if a < s ∧ s < mid2 a b then symF lt f a s (mid2 a b) d1 else d1
      if mid2 a b < e ∧ e < b then symF lt f (mid2 a b) e b d2 else d2
def sym (lt : α → α → Bool) (a m b : Nat) (d : Array α) : Array α := symF lt (b - a) a m b d

/-! ### What the places hold -/
theorem mvUp_size (e : Nat) : ∀ (n k : Nat) (d : Array α), e - k = n → (mvUp k e d).size = d.size := by
  intro n
  induction n with
  | zero => intro k d h; rw [mvUp, if_neg (by omega)]
  | succ n ih => intro k d h; rw [mvUp, if_pos (by omega), ih _ _ (by omega), size_swp]
theorem mvDn_size (e : Nat) : ∀ (n k : Nat) (d : Array α), k - e = n → (mvDn k e d).size = d.size := by
  intro n
  induction n with
  | zero => intro k d h; rw [mvDn, if_neg (by omega)]
  | succ n ih => intro k d h; rw [mvDn, if_pos (by omega), ih _ _ (by omega), size_swp]
theorem swR_size (a b m : Nat) : ∀ (n i : Nat) (d : Array α), m - i = n → (swR a b m i d).size = d.size := by
  intro n
  induction n with
  | zero => intro k d h; rw [swR, if_neg (by omega)]
  | succ n ih => intro k d h; rw [swR, if_pos (by omega), ih _ _ (by omega), size_swp]

theorem mvUp_get (e : Nat) : ∀ (n k : Nat) (d : Array α), e - k = n → k ≤ e → e < d.size → ∀ x, (mvUp k e d)[x]! = if x = e then d[k]! else if k ≤ x ∧ x < e then d[x + 1]! else d[x]! := by
  intro n
  induction n with
  | zero =>
    intro k d h hk hs x
    obtain rfl : k = e := by omega
    rw [mvUp, if_neg (by omega)]
    by_cases hx : x = k
    · subst hx; simp
    · rw [if_neg hx, if_neg (by omega)]
  | succ n ih =>
    intro k d h hk hs x
    rw [mvUp, if_pos (by omega), ih (k + 1) (swp d k (k + 1)) (by omega) (by omega) (by rw [size_swp]; exact hs)]
    have g := swp_get d (show k < d.size by omega) (show k + 1 < d.size by omega)
    rw [g, g, g]
    (repeat' split) <;> first | rfl | (exfalso; omega) | (congr 1; omega)
theorem mvDn_get (e : Nat) : ∀ (n k : Nat) (d : Array α), k - e = n → e ≤ k → k < d.size → ∀ x, (mvDn k e d)[x]! = if x = e then d[k]! else if e < x ∧ x ≤ k then d[x - 1]! else d[x]! := by
  intro n
  induction n with
  | zero =>
    intro k d h hk hs x
    obtain rfl : k = e := by omega
    rw [mvDn, if_neg (by omega)]
    by_cases hx : x = k
    · subst hx; simp
    · rw [if_neg hx, if_neg (by omega)]
  | succ n ih =>
    intro k d h hk hs x
    rw [mvDn, if_pos (by omega), ih (k - 1) (swp d k (k - 1)) (by omega) (by omega) (by rw [size_swp]; omega)]
    have g := swp_get d (show k < d.size by omega) (show k - 1 < d.size by omega)
    rw [g, g, g]
    (repeat' split) <;> first | rfl | (exfalso; omega) | (congr 1; omega)
theorem swR_get (a b m : Nat) (hab : a + m ≤ b) : ∀ (n i : Nat) (d : Array α), m - i = n → i ≤ m → b + m ≤ d.size → ∀ x,
    (swR a b m i d)[x]! = if a + i ≤ x ∧ x < a + m then d[x + (b - a)]! else if b + i ≤ x ∧ x < b + m then d[x - (b - a)]! else d[x]! := by
  intro n
  induction n with
  | zero =>
    intro i d h hi hs x
    rw [swR, if_neg (by omega), if_neg (by omega), if_neg (by omega)]
  | succ n ih =>
    intro i d h hi hs x
    rw [swR, if_pos (by omega), ih (i + 1) (swp d (a + i) (b + i)) (by omega) (by omega) (by rw [size_swp]; exact hs)]
    have g := swp_get d (show a + i < d.size by omega) (show b + i < d.size by omega)
    rw [g, g, g]
    (repeat' split) <;> first | rfl | (exfalso; omega) | (congr 1; omega)

theorem rot_size (m : Nat) : ∀ (n i j : Nat) (d : Array α), i + j = n → (rot m i j d).size = d.size := by
  intro n
  induction n using Nat.strongRecOn with
  | ind n ih =>
    intro i j d hn
    rw [rot]
    split
    · exact swR_size _ _ _ _ _ _ rfl
    · split
      · split
        · rfl
        · rw [ih (i - j + j) (by omega) _ _ _ rfl, swR_size _ _ _ _ _ _ rfl]
      · split
        · rfl
        · rw [ih (i + (j - i)) (by omega) _ _ _ rfl, swR_size _ _ _ _ _ _ rfl]

/-- The blocks rotated: [m - i, m) and [m, m + j) have changed places. -/
theorem rot_get (m : Nat) : ∀ (n i j : Nat) (d : Array α), i + j = n → i ≤ m → m + j ≤ d.size → ∀ x,
    (rot m i j d)[x]! = if m - i ≤ x ∧ x < m - i + j then d[x + i]! else if m - i + j ≤ x ∧ x < m + j then d[x - j]! else d[x]! := by
  intro n
  induction n using Nat.strongRecOn with
  | ind n ih =>
    intro i j d hn him hs x
    rw [rot]
    by_cases e : i = j
    · subst e
      rw [if_pos rfl, swR_get (m - i) m i (by omega) i 0 d rfl (by omega) (by omega)]
      (repeat' split) <;> first | rfl | (exfalso; omega) | (congr 1; omega)
    · rw [if_neg e]
      by_cases hji : j < i
      · rw [if_pos hji]
        by_cases h0 : j = 0
        · subst h0
          rw [if_pos rfl, if_neg (by omega)]
          (repeat' split) <;> first | rfl | (exfalso; omega) | (congr 1; omega)
        · rw [if_neg h0, ih (i - j + j) (by omega) (i - j) j _ rfl (by omega) (by rw [swR_size _ _ _ _ _ _ rfl]; exact hs)]
          have g := swR_get (m - i) m j (by omega) j 0 d rfl (by omega) (by omega)
          rw [g, g, g]
          (repeat' split) <;> first | rfl | (exfalso; omega) | (congr 1; omega)
      · rw [if_neg hji]
        by_cases h0 : i = 0
        · subst h0
          rw [if_pos rfl]
          (repeat' split) <;> first | rfl | (exfalso; omega) | (congr 1; omega)
        · rw [if_neg h0, ih (i + (j - i)) (by omega) i (j - i) _ rfl (by omega) (by rw [swR_size _ _ _ _ _ _ rfl]; omega)]
          have g := swR_get (m - i) (m + j - i) i (by omega) i 0 d rfl (by omega) (by omega)
          rw [g, g, g]
          (repeat' split) <;> first | rfl | (exfalso; omega) | (congr 1; omega)

/-! ### Each is a permutation within its bounds -/
theorem mvUp_perm (a b e : Nat) : ∀ (n k : Nat) (d : Array α), e - k = n → a ≤ k → e < b → b ≤ d.size → PermIn a b d (mvUp k e d) := by
  intro n
  induction n with
  | zero => intro k d h _ _ _; rw [mvUp, if_neg (by omega)]; exact permIn_refl _ _ _
  | succ n ih =>
    intro k d h ha hb hs
    rw [mvUp, if_pos (by omega)]
    exact permIn_trans _ _ _ a b (swp_permIn d a b k (k + 1) (by omega) (by omega) (by omega) (by omega) hs) (ih _ _ (by omega) (by omega) hb (by rw [size_swp]; exact hs))
theorem mvDn_perm (a b e : Nat) : ∀ (n k : Nat) (d : Array α), k - e = n → a ≤ e → k < b → b ≤ d.size → PermIn a b d (mvDn k e d) := by
  intro n
  induction n with
  | zero => intro k d h _ _ _; rw [mvDn, if_neg (by omega)]; exact permIn_refl _ _ _
  | succ n ih =>
    intro k d h ha hb hs
    rw [mvDn, if_pos (by omega)]
    exact permIn_trans _ _ _ a b (swp_permIn d a b k (k - 1) (by omega) (by omega) (by omega) (by omega) hs) (ih _ _ (by omega) ha (by omega) (by rw [size_swp]; exact hs))
theorem swR_perm (a b p q m : Nat) (hp : a ≤ p) (hpq : p + m ≤ q) (hq : q + m ≤ b) : ∀ (n i : Nat) (d : Array α), m - i = n → b ≤ d.size → PermIn a b d (swR p q m i d) := by
  intro n
  induction n with
  | zero => intro i d h _; rw [swR, if_neg (by omega)]; exact permIn_refl _ _ _
  | succ n ih =>
    intro i d h hs
    rw [swR, if_pos (by omega)]
    exact permIn_trans _ _ _ a b (swp_permIn d a b (p + i) (q + i) (by omega) (by omega) (by omega) (by omega) hs) (ih _ _ (by omega) (by rw [size_swp]; exact hs))
theorem rot_perm (a b m : Nat) : ∀ (n i j : Nat) (d : Array α), i + j = n → i ≤ m → a ≤ m - i → m + j ≤ b → b ≤ d.size → PermIn a b d (rot m i j d) := by
  intro n
  induction n using Nat.strongRecOn with
  | ind n ih =>
    intro i j d hn him ha hb hs
    rw [rot]
    split
    · exact swR_perm a b _ _ _ ha (by omega) (by omega) _ _ _ rfl hs
    · split
      · split
        · exact permIn_refl _ _ _
        · exact permIn_trans _ _ _ a b (swR_perm a b (m - i) m j ha (by omega) (by omega) _ 0 d rfl hs) (ih (i - j + j) (by omega) _ _ _ rfl (by omega) (by omega) hb (by rw [swR_size _ _ _ _ _ _ rfl]; exact hs))
      · split
        · exact permIn_refl _ _ _
        · exact permIn_trans _ _ _ a b (swR_perm a b (m - i) (m + j - i) i ha (by omega) (by omega) _ 0 d rfl hs) (ih (i + (j - i)) (by omega) _ _ _ rfl him ha (by omega) (by rw [swR_size _ _ _ _ _ _ rfl]; exact hs))
end
end Go.Proofs.YtdjepnilmgembaaGreatDoor
