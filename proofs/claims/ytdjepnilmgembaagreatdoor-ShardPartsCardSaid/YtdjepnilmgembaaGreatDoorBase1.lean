/-
  'Bel B w w2': below block B the world w2 is as w was, and no fewer draws were made: for what a sort's comparison leaves.
  Plain laws of the natural order of strings: runs of digits, their numbers, the comparison of two strings; it is a strict order that parts whatever two strings differ.
  Words for slices whose elements are read as values of a type: 'Rw': a slice that reads as a list, below a block; 'Own': a slice of the call's own that holds a list; an append of the one onto the other.
  What every law's last step shares: a call that returns true and leaves all that was there as it was meets 'true; each argument reads as it read'.
  A slice that came in: its cells, element by element, at a plain address.
  Arguments opened: a struct's fields, a slice's elements as values of a type.
-/
import Derived.Below
import Derived.Sort.Grow
import Derived.Deep.Draws
import Derived.Lib.Strings
import Derived.Laws.OwnMore
import Derived.Maps.AppendAt
import Derived.Deep.AppendLies
import Derived.Tactics
import Derived.OwnWalk
import Derived.WalkKit
import Derived.ProofKit
import Derived.OpenShut
import Derived.Lib.SmallJoins
import Derived.Deep.Slices

namespace Go.Proofs.YtdjepnilmgembaaGreatDoor
open Go.RowKit

structure Bel (B : Nat) (w w' : World) : Prop extends Below B w w' where
  more : w.drawn ≤ w'.drawn
variable {B : Nat} {a b c w w' : World}
theorem Bel.refl (B : Nat) (w : World) : Bel B w w := ⟨Below.refl B w, Nat.le_refl _⟩
theorem Bel.trans (h : Bel B a b) (k : Bel B b c) : Bel B a c := ⟨h.toBelow.trans k.toBelow, Nat.le_trans h.more k.more⟩
theorem Bel.mono {B' : Nat} (h : Bel B w w') (hB : B' ≤ B) : Bel B' w w' := ⟨h.toBelow.mono hB, h.more⟩
theorem Bel.drew (h : Bel B a w) : Bel B a w.drew := ⟨h.toBelow.drew, Nat.le_trans h.more (Nat.le_succ _)⟩
theorem Bel.drewN (h : Bel B a w) (n : Nat) : Bel B a (w.drewN n) := ⟨⟨h.os, h.tape, h.output, h.size, h.block⟩, Nat.le_trans h.more (Nat.le_add_right _ _)⟩
theorem Bel.alloc (h : Bel B a w) (hB : B ≤ w.heap.size) (o : Obj) : Bel B a (w.alloc o) := ⟨h.toBelow.alloc hB o, h.more⟩
theorem Bel.setCell (h : Bel B a w) {p : Addr} (hp : B ≤ p.block) (u : Value) : Bel B a (w.setCell p u) := ⟨h.toBelow.setCell hp u, h.more⟩

/-- All that has turned: draws, and new blocks. -/
theorem Bel.grow (h : Bel w.heap.size w w') : ∃ q os, w' = Go.Sort.grow (w.drewN q) os := by
  refine ⟨w'.drawn - w.drawn, w'.heap.extract w.heap.size w'.heap.size, ?_⟩
  obtain ⟨h1, hm⟩ := h
  have hh : w'.heap = w.heap ++ w'.heap.extract w.heap.size w'.heap.size := by
    apply Array.ext_getElem?
    intro i
    by_cases hi : i < w.heap.size
    · rw [h1.block i hi, Array.getElem?_append_left hi]
    · rw [Array.getElem?_append_right (by omega), Array.getElem?_extract]
      have hz := h1.size
      by_cases hj : i < w'.heap.size
      · rw [if_pos (by omega)]; congr 1; omega
      · rw [if_neg (by omega), Array.getElem?_eq_none (by omega)]
  obtain ⟨e1, e2, e3, e4, e5⟩ := h1
  cases w with
  | mk heap tape drawn os output =>
    cases w' with
    | mk heap' tape' drawn' os' output' =>
      simp only at *
      subst e1 e2 e3
      simp only [Go.Sort.grow, World.drewN, World.mk.injEq, true_and, and_true]
      exact ⟨hh, by omega⟩
end Go.Proofs.YtdjepnilmgembaaGreatDoor

namespace Go.Proofs.YtdjepnilmgembaaGreatDoor.Id

def dig (c : UInt8) : Bool := decide (48 ≤ c.toNat) && decide (c.toNat ≤ 57)
/-- How many digits a text begins with. -/
def runN : List UInt8 → Nat
  | [] => 0
  | c :: l => if dig c then runN l + 1 else 0
/-- A text without its leading zeros. -/
def strip : List UInt8 → List UInt8
  | [] => []
  | c :: l => if c = 48 then strip l else c :: l
def cmpI (a b : Int) : Int := if a < b then -1 else if b < a then 1 else 0
def cmpB (a b : List UInt8) : Int := if Op.bytesLess a b then -1 else if a = b then 0 else 1
def or3 (a b c : Int) : Int := if a ≠ 0 then a else if b ≠ 0 then b else c
/-- How two runs of digits are ordered. -/
def nums (a b : List UInt8) : Int :=
  or3 (cmpI (strip a).length (strip b).length) (cmpB (strip a) (strip b)) (cmpI a.length b.length)
/-- How two texts are ordered. -/
def cmpF : Nat → List UInt8 → List UInt8 → Int
  | 0, a, b => cmpI a.length b.length
  | k + 1, a, b =>
    if a = [] ∨ b = [] then cmpI a.length b.length else
    if runN a ≠ 0 ∧ runN b ≠ 0 then
      if nums (a.take (runN a)) (b.take (runN b)) ≠ 0 then nums (a.take (runN a)) (b.take (runN b)) else cmpF k (a.drop (runN a)) (b.drop (runN b))
    else if a.head? ≠ b.head? then cmpI (a.headD 0).toNat (b.headD 0).toNat else cmpF k a.tail b.tail
def cmpN (a b : List UInt8) : Int := cmpF a.length a b

theorem runN_le (l : List UInt8) : runN l ≤ l.length := by
  induction l with
  | nil => simp [runN]
  | cons c l ih => unfold runN; split <;> simp; omega

theorem cmpF_enough : ∀ (k m : Nat) (a b : List UInt8), a.length ≤ k → a.length ≤ m → cmpF k a b = cmpF m a b := by
  intro k
  induction k with
  | zero =>
    intro m a b h h2
    have ha : a = [] := List.eq_nil_of_length_eq_zero (by omega)
    subst ha
    cases m <;> simp [cmpF]
  | succ k ih =>
    intro m a b h h2
    cases m with
    | zero =>
      have ha : a = [] := List.eq_nil_of_length_eq_zero (by omega)
      subst ha
      simp [cmpF]
    | succ m =>
      unfold cmpF
      by_cases h1 : a = [] ∨ b = []
      · rw [if_pos h1, if_pos h1]
      · rw [if_neg h1, if_neg h1]
        have hp : 0 < a.length := List.length_pos_iff.2 (fun e => h1 (.inl e))
        by_cases h3 : runN a ≠ 0 ∧ runN b ≠ 0
        · rw [if_pos h3, if_pos h3, ih m (a.drop (runN a)) (b.drop (runN b)) (by simp; omega) (by simp; omega)]
        · rw [if_neg h3, if_neg h3, ih m a.tail b.tail (by simp; omega) (by simp; omega)]

theorem cmpN_end {a b : List UInt8} (h : a = [] ∨ b = []) : cmpN a b = cmpI a.length b.length := by
  unfold cmpN
  cases hl : a.length with
  | zero => simp [cmpF, hl]
  | succ k => unfold cmpF; rw [if_pos h, hl]

theorem cmpN_run {a b : List UInt8} (ha : a ≠ []) (hb : b ≠ []) (h1 : runN a ≠ 0) (h2 : runN b ≠ 0) :
    cmpN a b = if nums (a.take (runN a)) (b.take (runN b)) ≠ 0 then nums (a.take (runN a)) (b.take (runN b)) else cmpN (a.drop (runN a)) (b.drop (runN b)) := by
  have hp : 0 < a.length := List.length_pos_iff.2 ha
  obtain ⟨k, hk⟩ : ∃ k, a.length = k + 1 := ⟨a.length - 1, by omega⟩
  unfold cmpN
  rw [hk]
  conv => lhs; unfold cmpF
  rw [if_neg (by simp [ha, hb]), if_pos ⟨h1, h2⟩, cmpF_enough k (a.drop (runN a)).length _ _ (by simp; omega) (Nat.le_refl _)]

theorem cmpN_byte {a b : List UInt8} (ha : a ≠ []) (hb : b ≠ []) (h : ¬ (runN a ≠ 0 ∧ runN b ≠ 0)) :
    cmpN a b = if a.head? ≠ b.head? then cmpI (a.headD 0).toNat (b.headD 0).toNat else cmpN a.tail b.tail := by
  have hp : 0 < a.length := List.length_pos_iff.2 ha
  obtain ⟨k, hk⟩ : ∃ k, a.length = k + 1 := ⟨a.length - 1, by omega⟩
  unfold cmpN
  rw [hk]
  conv => lhs; unfold cmpF
  rw [if_neg (by simp [ha, hb]), if_neg h, cmpF_enough k a.tail.length _ _ (by simp; omega) (Nat.le_refl _)]

/- The order of lists of numbers. -/
def lexC : List Nat → List Nat → Int
  | [], [] => 0
  | [], _ :: _ => -1
  | _ :: _, [] => 1
  | a :: x, b :: y => if a < b then -1 else if b < a then 1 else lexC x y

theorem lexC_cons (a b : Nat) (x y : List Nat) : lexC (a :: x) (b :: y) = if a < b then -1 else if b < a then 1 else lexC x y := rfl
theorem lexC_self (x : List Nat) : lexC x x = 0 := by induction x <;> simp [lexC, *]
theorem lexC_eq : ∀ {x y : List Nat}, lexC x y = 0 → x = y
  | [], [], _ => rfl
  | [], _ :: _, h => by simp [lexC] at h
  | _ :: _, [], h => by simp [lexC] at h
  | a :: x, b :: y, h => by
    unfold lexC at h
    by_cases h1 : a < b
    · simp [h1] at h
    · by_cases h2 : b < a
      · simp [h1, h2] at h
      · simp only [h1, h2, if_false] at h
        rw [lexC_eq h, show a = b by omega]
theorem lexC_neg : ∀ (x y : List Nat), lexC y x = - lexC x y
  | [], [] => rfl
  | [], _ :: _ => rfl
  | _ :: _, [] => rfl
  | a :: x, b :: y => by
    unfold lexC
    by_cases h1 : a < b
    · simp [h1, show ¬ b < a by omega]
    · by_cases h2 : b < a
      · simp [h1, h2]
      · simp [h1, h2, lexC_neg x y]
theorem lexC_vals : ∀ (x y : List Nat), lexC x y = -1 ∨ lexC x y = 0 ∨ lexC x y = 1
  | [], [] => by simp [lexC]
  | [], _ :: _ => by simp [lexC]
  | _ :: _, [] => by simp [lexC]
  | a :: x, b :: y => by
    unfold lexC
    have := lexC_vals x y
    by_cases h1 : a < b
    · simp [h1]
    · by_cases h2 : b < a <;> simp [h1, h2, this]
theorem lexC_trans : ∀ {x y z : List Nat}, lexC x y < 0 → lexC y z < 0 → lexC x z < 0
  | [], [], _, h, _ => by simp [lexC] at h
  | _ :: _, [], _, h, _ => by simp [lexC] at h
  | [], _ :: _, [], _, h => by simp [lexC] at h
  | [], _ :: _, _ :: _, _, _ => by simp [lexC]
  | _ :: _, _ :: _, [], _, h => by simp [lexC] at h
  | a :: x, b :: y, c :: z, h, h2 => by
    unfold lexC at h h2 ⊢
    by_cases h3 : a < b
    · by_cases h4 : b < c
      · simp [show a < c by omega]
      · by_cases h5 : c < b
        · simp [h4, h5] at h2
        · simp [show a < c by omega]
    · by_cases h6 : b < a
      · simp [h3, h6] at h
      · simp only [h3, h6, if_false] at h
        by_cases h4 : b < c
        · simp [show a < c by omega]
        · by_cases h5 : c < b
          · simp [h4, h5] at h2
          · simp only [h4, h5, if_false] at h2
            simp only [show ¬ a < c by omega, show ¬ c < a by omega, if_false]
            exact lexC_trans h h2
theorem lexC_app : ∀ {x y u v : List Nat}, x.length = y.length → lexC (x ++ u) (y ++ v) = if lexC x y ≠ 0 then lexC x y else lexC u v
  | [], [], _, _, _ => by simp [lexC]
  | [], _ :: _, _, _, h => by simp at h
  | _ :: _, [], _, _, h => by simp at h
  | a :: x, b :: y, u, v, h => by
    simp only [List.cons_append, lexC_cons]
    by_cases h1 : a < b
    · simp [h1]
    · by_cases h2 : b < a
      · simp [h1, h2]
      · simp only [h1, h2, if_false]
        exact lexC_app (by simpa using h)

/- A text as a list of numbers that is ordered as the text is. -/
def codeF : Nat → List UInt8 → List Nat
  | 0, _ => []
  | _ + 1, [] => []
  | k + 1, c :: l =>
    if dig c then 48 :: (strip ((c :: l).take (runN (c :: l)))).length :: ((strip ((c :: l).take (runN (c :: l)))).map UInt8.toNat ++ (runN (c :: l) :: codeF k ((c :: l).drop (runN (c :: l)))))
    else c.toNat :: codeF k l

theorem codeF_cons (k : Nat) (c : UInt8) (l : List UInt8) : ∃ x y, codeF (k + 1) (c :: l) = x :: y := by
  unfold codeF; split
  · exact ⟨_, _, rfl⟩
  · exact ⟨_, _, rfl⟩
theorem codeF_nil : ∀ (k : Nat), codeF k [] = []
  | 0 => rfl
  | _ + 1 => rfl
theorem cmp_nl (k m : Nat) (d : UInt8) (b : List UInt8) : cmpF k [] (d :: b) = lexC (codeF k []) (codeF (m + 1) (d :: b)) := by
  obtain ⟨x, y, e⟩ := codeF_cons m d b
  rw [e, codeF_nil]
  have h : cmpI (([] : List UInt8).length : Int) ((d :: b).length : Int) = -1 := by unfold cmpI; rw [if_pos (by simp only [List.length_nil, List.length_cons]; omega)]
  cases k with
  | zero => exact h
  | succ k => unfold cmpF; rw [if_pos (by simp)]; exact h
theorem cmp_ln (k m : Nat) (d : UInt8) (b : List UInt8) : cmpF (k + 1) (d :: b) [] = lexC (codeF (k + 1) (d :: b)) (codeF m []) := by
  obtain ⟨x, y, e⟩ := codeF_cons k d b
  rw [e, codeF_nil]
  unfold cmpF
  rw [if_pos (by simp)]
  unfold cmpI
  rw [if_neg (by simp only [List.length_nil, List.length_cons]; omega), if_pos (by simp only [List.length_nil, List.length_cons]; omega)]
  rfl
theorem cmp_nn (k m : Nat) : cmpF k [] [] = lexC (codeF k []) (codeF m []) := by
  rw [codeF_nil, codeF_nil]
  cases k <;> simp [cmpF, cmpI, lexC]

theorem cmpB_lex : ∀ {x y : List UInt8}, x.length = y.length → cmpB x y = lexC (x.map UInt8.toNat) (y.map UInt8.toNat)
  | [], [], _ => rfl
  | [], _ :: _, h => by simp at h
  | _ :: _, [], h => by simp at h
  | a :: x, b :: y, h => by
    have ih := cmpB_lex (x := x) (y := y) (by simpa using h)
    unfold cmpB at ih ⊢
    simp only [List.map_cons]
    unfold lexC Op.bytesLess
    by_cases h1 : a < b
    · simp [h1, UInt8.lt_iff_toNat_lt.1 h1]
    · have h1' : ¬ a.toNat < b.toNat := fun h => h1 (UInt8.lt_iff_toNat_lt.2 h)
      by_cases h2 : b.toNat < a.toNat
      · have h3 : ¬ a = b := fun e => by subst e; omega
        simp [h1, h1', h2, h3]
      · have h3 : a = b := UInt8.toNat_inj.1 (by omega)
        subst h3
        simp only [h1, h1', if_false, decide_false, Bool.false_or, beq_self_eq_true, Bool.true_and, List.cons.injEq, true_and]
        exact ih

theorem runN_pos {c : UInt8} {l : List UInt8} : runN (c :: l) ≠ 0 ↔ dig c = true := by
  unfold runN; split <;> simp_all

theorem cmpI_vals (a b : Int) : cmpI a b = -1 ∨ cmpI a b = 0 ∨ cmpI a b = 1 := by
  unfold cmpI; by_cases h : a < b <;> by_cases h2 : b < a <;> simp [h, h2]

theorem cmpF_code : ∀ (k m : Nat) (a b : List UInt8), a.length ≤ k → b.length ≤ m → cmpF k a b = lexC (codeF k a) (codeF m b) := by
  intro k
  induction k with
  | zero =>
    intro m a b h h2
    have ha : a = [] := List.eq_nil_of_length_eq_zero (by omega)
    subst ha
    cases b with
    | nil => exact cmp_nn _ _
    | cons d b =>
      cases m with
      | zero => simp at h2
      | succ m => exact cmp_nl _ _ _ _
  | succ k ih =>
    intro m a b h h2
    cases a with
    | nil =>
      cases b with
      | nil => exact cmp_nn _ _
      | cons d b =>
        cases m with
        | zero => simp at h2
        | succ m => exact cmp_nl _ _ _ _
    | cons c a =>
      cases b with
      | nil => exact cmp_ln _ _ _ _
      | cons d b =>
        cases m with
        | zero => simp at h2
        | succ m =>
          have ra := runN_le (c :: a)
          have rb := runN_le (d :: b)
          unfold cmpF codeF
          rw [if_neg (by simp)]
          by_cases hc : dig c = true
          · by_cases hd : dig d = true
            · rw [if_pos ⟨runN_pos.2 hc, runN_pos.2 hd⟩, if_pos hc, if_pos hd]
              have pa : runN (c :: a) ≠ 0 := runN_pos.2 hc
              have pb : runN (d :: b) ≠ 0 := runN_pos.2 hd
              rw [ih m ((c :: a).drop (runN (c :: a))) ((d :: b).drop (runN (d :: b))) (by simp at h ⊢; omega) (by simp at h2 ⊢; omega)]
              generalize hx : strip ((c :: a).take (runN (c :: a))) = x
              generalize hy : strip ((d :: b).take (runN (d :: b))) = y
              have lx : ((c :: a).take (runN (c :: a))).length = runN (c :: a) := by rw [List.length_take]; omega
              have ly : ((d :: b).take (runN (d :: b))).length = runN (d :: b) := by rw [List.length_take]; omega
              unfold nums
              rw [hx, hy, lx, ly]
              generalize runN (c :: a) = n at *
              generalize runN (d :: b) = o at *
              have e48 : ∀ u v, lexC (48 :: u) (48 :: v) = lexC u v := fun u v => by simp [lexC_cons]
              rw [e48, lexC_cons]
              unfold or3
              by_cases l1 : x.length < y.length
              · simp [cmpI, l1, show (x.length : Int) < y.length by omega]
              · by_cases l2 : y.length < x.length
                · simp [cmpI, l1, l2, show ¬ (x.length : Int) < y.length by omega, show (y.length : Int) < x.length by omega]
                · have l3 : x.length = y.length := by omega
                  rw [if_neg l1, if_neg l2, lexC_app (by simpa using l3), ← cmpB_lex l3]
                  have e0 : cmpI (x.length : Int) y.length = 0 := by simp [cmpI, l3]
                  rw [e0]
                  by_cases hB : cmpB x y = 0
                  · rw [hB]
                    simp only [ne_eq, not_true_eq_false, if_false]
                    rw [lexC_cons]
                    by_cases n1 : n < o
                    · simp [cmpI, n1, show (n : Int) < o by omega]
                    · by_cases n2 : o < n
                      · simp [cmpI, n1, n2, show ¬ (n : Int) < o by omega, show (o : Int) < n by omega]
                      · have n3 : n = o := by omega
                        simp [cmpI, n3]
                  · simp [hB]
            · rw [if_neg (by rw [runN_pos (c := d)]; simp [hd]), if_pos hc, if_neg hd]
              have hne : c ≠ d := fun e => hd (e ▸ hc)
              have hn' : c.toNat ≠ d.toNat := fun e => hne (UInt8.toNat_inj.1 e)
              rw [if_pos (by simpa using hne)]
              simp only [List.headD_cons]
              unfold lexC cmpI
              unfold dig at hc hd
              simp at hc hd
              by_cases l1 : c.toNat < d.toNat
              · rw [if_pos (by omega), if_pos (by omega)]
              · rw [if_neg (by omega), if_pos (by omega), if_neg (by omega), if_pos (by omega)]
          · rw [if_neg (by rw [runN_pos (c := c)]; simp [hc]), if_neg hc]
            by_cases hd : dig d = true
            · rw [if_pos hd]
              have hne : c ≠ d := fun e => hc (e ▸ hd)
              have hn' : c.toNat ≠ d.toNat := fun e => hne (UInt8.toNat_inj.1 e)
              rw [if_pos (by simpa using hne)]
              simp only [List.headD_cons]
              unfold lexC cmpI
              unfold dig at hc hd
              simp at hc hd
              by_cases l1 : c.toNat < d.toNat
              · rw [if_pos (by omega), if_pos (by omega)]
              · rw [if_neg (by omega), if_pos (by omega), if_neg (by omega), if_pos (by omega)]
            · rw [if_neg hd]
              unfold lexC
              simp only [List.headD_cons, List.tail_cons]
              by_cases l1 : c.toNat < d.toNat
              · have hne : c ≠ d := fun e => by subst e; omega
                rw [if_pos (by simpa using hne), if_pos l1]; unfold cmpI; rw [if_pos (by omega)]
              · by_cases l2 : d.toNat < c.toNat
                · have hne : c ≠ d := fun e => by subst e; omega
                  rw [if_pos (by simpa using hne), if_neg l1, if_pos l2]; unfold cmpI; rw [if_neg (by omega), if_pos (by omega)]
                · have he : c = d := UInt8.toNat_inj.1 (by omega)
                  subst he
                  rw [if_neg (by simp), if_neg l1, if_neg l1]
                  exact ih m a b (by simp at h; omega) (by simp at h2; omega)

def code (a : List UInt8) : List Nat := codeF a.length a
theorem cmpN_code (a b : List UInt8) : cmpN a b = lexC (code a) (code b) := cmpF_code _ _ _ _ (Nat.le_refl _) (Nat.le_refl _)

theorem strip_eq : ∀ (r : List UInt8), r = List.replicate (r.length - (strip r).length) 48 ++ strip r ∧ (strip r).length ≤ r.length
  | [] => by simp [strip]
  | c :: l => by
    obtain ⟨h, h2⟩ := strip_eq l
    unfold strip
    by_cases hc : c = 48
    · rw [if_pos hc]
      refine ⟨?_, by simp; omega⟩
      have e : (c :: l).length - (strip l).length = (l.length - (strip l).length) + 1 := by simp; omega
      rw [e, List.replicate_succ, List.cons_append, ← h, hc]
    · rw [if_neg hc]
      simp

theorem codeF_inj : ∀ (k m : Nat) (a b : List UInt8), a.length ≤ k → b.length ≤ m → codeF k a = codeF m b → a = b := by
  intro k
  induction k with
  | zero =>
    intro m a b h h2 he
    have ha : a = [] := List.eq_nil_of_length_eq_zero (by omega)
    subst ha
    cases b with
    | nil => rfl
    | cons d b =>
      cases m with
      | zero => simp at h2
      | succ m => unfold codeF at he; split at he <;> simp at he
  | succ k ih =>
    intro m a b h h2 he
    cases a with
    | nil =>
      cases b with
      | nil => rfl
      | cons d b =>
        cases m with
        | zero => simp at h2
        | succ m => unfold codeF at he; split at he <;> simp at he
    | cons c a =>
      cases b with
      | nil =>
        cases m with
        | zero => unfold codeF at he; split at he <;> simp at he
        | succ m => unfold codeF at he; split at he <;> simp at he
      | cons d b =>
        cases m with
        | zero => simp at h2
        | succ m =>
          have ra := runN_le (c :: a)
          have rb := runN_le (d :: b)
          unfold codeF at he
          by_cases hc : dig c = true
          · have pa : runN (c :: a) ≠ 0 := runN_pos.2 hc
            by_cases hd : dig d = true
            · have pb : runN (d :: b) ≠ 0 := runN_pos.2 hd
              rw [if_pos hc, if_pos hd] at he
              simp only [List.cons.injEq, true_and] at he
              obtain ⟨hl, he⟩ := he
              have hl2 : ((strip ((c :: a).take (runN (c :: a)))).map UInt8.toNat).length = ((strip ((d :: b).take (runN (d :: b)))).map UInt8.toNat).length := by simpa using hl
              obtain ⟨hs, he⟩ := List.append_inj he hl2
              simp only [List.cons.injEq] at he
              obtain ⟨hr, he⟩ := he
              have hs2 : strip ((c :: a).take (runN (c :: a))) = strip ((d :: b).take (runN (d :: b))) := List.map_inj_right (fun _ _ => UInt8.toNat_inj.1) |>.1 hs
              have hd2 := ih m _ _ (by simp at h ⊢; omega) (by simp at h2 ⊢; omega) he
              have lx : ((c :: a).take (runN (c :: a))).length = runN (c :: a) := by rw [List.length_take]; omega
              have ly : ((d :: b).take (runN (d :: b))).length = runN (d :: b) := by rw [List.length_take]; omega
              have t : (c :: a).take (runN (c :: a)) = (d :: b).take (runN (d :: b)) := by
                rw [(strip_eq ((c :: a).take (runN (c :: a)))).1, (strip_eq ((d :: b).take (runN (d :: b)))).1, lx, ly, hs2, hr]
              rw [← List.take_append_drop (runN (c :: a)) (c :: a), ← List.take_append_drop (runN (d :: b)) (d :: b), t, hd2]
            · rw [if_pos hc, if_neg hd] at he
              simp only [List.cons.injEq] at he
              unfold dig at hd
              simp at hd
              omega
          · by_cases hd : dig d = true
            · rw [if_neg hc, if_pos hd] at he
              simp only [List.cons.injEq] at he
              unfold dig at hc
              simp at hc
              omega
            · rw [if_neg hc, if_neg hd] at he
              simp only [List.cons.injEq] at he
              rw [UInt8.toNat_inj.1 he.1, ih m a b (by simp at h; omega) (by simp at h2; omega) he.2]

theorem cmpN_zero {a b : List UInt8} : cmpN a b = 0 ↔ a = b := by
  rw [cmpN_code]
  exact ⟨fun h => codeF_inj _ _ _ _ (Nat.le_refl _) (Nat.le_refl _) (lexC_eq h), fun h => by rw [h, lexC_self]⟩
theorem cmpN_self (a : List UInt8) : cmpN a a = 0 := cmpN_zero.2 rfl
theorem cmpN_neg (a b : List UInt8) : cmpN b a = - cmpN a b := by rw [cmpN_code, cmpN_code, lexC_neg]
theorem cmpN_vals (a b : List UInt8) : cmpN a b = -1 ∨ cmpN a b = 0 ∨ cmpN a b = 1 := by rw [cmpN_code]; exact lexC_vals _ _
theorem cmpN_trans {a b c : List UInt8} (h : cmpN a b < 0) (h2 : cmpN b c < 0) : cmpN a c < 0 := by
  rw [cmpN_code] at *; exact lexC_trans h h2
end Go.Proofs.YtdjepnilmgembaaGreatDoor.Id

namespace Go.Proofs.YtdjepnilmgembaaGreatDoor
open Go.RowKit

section
variable {α : Type} {enc : α → List Value} {k : Nat} {w w' : World} {B B' : Nat} {A : Option Addr} {l : List α}

/-- The slice at A reads as l: element i's cells from place i * k on; its block lies below block B. -/
def Rw (enc : α → List Value) (k : Nat) (w : World) (B : Nat) (A : Option Addr) (l : List α) : Prop :=
  0 < l.length → ∃ g o, A = some ⟨g, o, none⟩ ∧ g < B ∧ ∀ i x, l[i]? = some x → ∀ j u, (enc x)[j]? = some u → w.cell? ⟨g, o + i * k + j, none⟩ = some u

theorem Rw.nil : Rw enc k w B A [] := fun h => absurd h (by simp)
theorem Rw.keep (h : Rw enc k w B A l) (hk : ∀ p : Addr, p.block < B → w'.cell? p = w.cell? p) : Rw enc k w' B A l := fun hn => by
  obtain ⟨g, o, e, hb, hc⟩ := h hn
  exact ⟨g, o, e, hb, fun i x hx j u hu => (hk _ hb).trans (hc i x hx j u hu)⟩
theorem Rw.more (h : Rw enc k w B A l) (hB : B ≤ B') : Rw enc k w B' A l := fun hn => by
  obtain ⟨g, o, e, hb, hc⟩ := h hn
  exact ⟨g, o, e, by omega, hc⟩
theorem Rw.below (h : Rw enc k w B A l) {C : Nat} (hb : Below C w w') (hB : B ≤ C) : Rw enc k w' B A l := h.keep fun _ hp => hb.cell (by omega)
theorem Rw.drew (h : Rw enc k w B A l) : Rw enc k w.drew B A l := h
theorem Rw.drewN (h : Rw enc k w B A l) (n : Nat) : Rw enc k (w.drewN n) B A l := h
theorem Rw.alloc (h : Rw enc k w B A l) (hB : B ≤ w.heap.size) (o : Obj) : Rw enc k (w.alloc o) B A l := h.keep fun p hp => World.cell?_alloc_lt w o p (by omega)
theorem Rw.setCell (h : Rw enc k w B A l) {p : Addr} (hB : B ≤ p.block) (u : Value) : Rw enc k (w.setCell p u) B A l :=
  h.keep fun q hq => World.cell?_setCell_other w p q u (fun e => by subst e; omega)
theorem Rw.grown (h : Rw enc k w B A l) {row : Option Nat} (hg : w.grownBy w' row) (hB : B ≤ w.heap.size) (hr : ∀ g, row = some g → B ≤ g) : Rw enc k w' B A l :=
  h.keep fun p hp => World.cell?_of_block (hg.block p.block (by omega) (fun e => by have := hr _ e.symm; omega))

/-- The cells, one behind the other. -/
theorem flat_get (hk : ∀ x : α, (enc x).length = k) : ∀ {l : List α} {t : Nat} {u : Value}, (l.flatMap enc)[t]? = some u → ∃ i j x, t = i * k + j ∧ l[i]? = some x ∧ (enc x)[j]? = some u
  | [], _, _, h => by simp at h
  | x :: l, t, u, h => by
    rw [List.flatMap_cons] at h
    by_cases ht : t < (enc x).length
    · rw [List.getElem?_append_left ht] at h
      exact ⟨0, t, x, by omega, rfl, h⟩
    · rw [List.getElem?_append_right (by omega)] at h
      obtain ⟨i, j, y, e, hy, hu⟩ := flat_get hk h
      rw [hk x] at e ht
      exact ⟨i + 1, j, y, by rw [Nat.add_mul]; omega, by simpa using hy, hu⟩
theorem flat_at (hk : ∀ x : α, (enc x).length = k) : ∀ {l : List α} {i j : Nat} {x : α} {u : Value}, l[i]? = some x → (enc x)[j]? = some u → (l.flatMap enc)[i * k + j]? = some u
  | [], _, _, _, _, h, _ => by simp at h
  | y :: l, 0, j, x, u, h, hu => by
    obtain rfl : y = x := by simpa using h
    rw [List.flatMap_cons, Nat.zero_mul, Nat.zero_add, List.getElem?_append_left (List.getElem?_eq_some_iff.1 hu).1]
    exact hu
  | y :: l, i + 1, j, x, u, h, hu => by
    rw [List.flatMap_cons, List.getElem?_append_right (by rw [hk y, Nat.add_mul]; omega), hk y]
    have e : (i + 1) * k + j - k = i * k + j := by rw [Nat.add_mul]; omega
    rw [e]
    exact flat_at hk (by simpa using h) hu
theorem flat_len (hk : ∀ x : α, (enc x).length = k) : ∀ (l : List α), (l.flatMap enc).length = l.length * k
  | [] => by simp
  | x :: l => by rw [List.flatMap_cons, List.length_append, flat_len hk l, hk x, List.length_cons, Nat.add_mul]; omega

theorem Rw.flat (hk : ∀ x : α, (enc x).length = k) (h : Rw enc k w B A l) (hn : 0 < l.length) : ∃ g o, A = some ⟨g, o, none⟩ ∧ g < B ∧ ∀ t u, (l.flatMap enc)[t]? = some u → w.cell? ⟨g, o + t, none⟩ = some u := by
  obtain ⟨g, o, e, hb, hc⟩ := h hn
  refine ⟨g, o, e, hb, fun t u hu => ?_⟩
  obtain ⟨i, j, x, rfl, hx, hj⟩ := flat_get hk hu
  rw [← Nat.add_assoc]
  exact hc i x hx j u hj

/-- A cut s[a:b]. -/
theorem Rw.cut {g0 o0 : Nat} (h : Rw enc k w B (some ⟨g0, o0, none⟩) l) {a b : Nat} : Rw enc k w B (some ⟨g0, o0 + a * k, none⟩) ((l.take b).drop a) := fun hn => by
  obtain ⟨g, o, e, hb, hc⟩ := h (by rw [List.length_drop, List.length_take] at hn; omega)
  simp only [Option.some.injEq, Addr.mk.injEq, and_true] at e
  obtain ⟨rfl, rfl⟩ := e
  refine ⟨_, _, rfl, hb, fun i x hx j u hu => ?_⟩
  rw [List.getElem?_drop] at hx
  have hab : a + i < b := by
    rcases Nat.lt_or_ge (a + i) b with hlt | hge
    · exact hlt
    · rw [List.getElem?_take_eq_none hge] at hx; cases hx
  rw [List.getElem?_take_of_lt hab] at hx
  have := hc (a + i) x hx j u hu
  rw [Nat.add_mul] at this
  rw [show o0 + a * k + i * k + j = o0 + (a * k + i * k) + j by omega]
  exact this

/-- A cut s[:b]. -/
theorem Rw.take (h : Rw enc k w B A l) {b : Nat} : Rw enc k w B A (l.take b) := fun hn => by
  obtain ⟨g, o, e, hb, hc⟩ := h (by rw [List.length_take] at hn; omega)
  refine ⟨g, o, e, hb, fun i x hx => hc i x ?_⟩
  rcases Nat.lt_or_ge i b with hlt | hge
  · rwa [List.getElem?_take_of_lt hlt] at hx
  · rw [List.getElem?_take_eq_none hge] at hx; cases hx
theorem addr_plain (g o j : Nat) : (⟨g, o, none⟩ : Addr).add j = ⟨g, o + j, none⟩ := by
  unfold Addr.add
  by_cases h : j = 0
  · subst h; simp
  · simp [h]
/-- A cut s[a:], as the model spells its address. -/
theorem Rw.drop (h : Rw enc k w B A l) {a c : Nat} (hc : l.length ≤ c) : Rw enc k w B (if c = a then A else A.map (·.add (a * k))) (l.drop a) := fun hn => by
  rw [List.length_drop] at hn
  obtain ⟨g, o, rfl, hb, hcell⟩ := h (by omega)
  rw [if_neg (by omega)]
  refine ⟨g, o + a * k, by simp [addr_plain], hb, fun i x hx j u hu => ?_⟩
  rw [List.getElem?_drop] at hx
  have := hcell (a + i) x hx j u hu
  rw [Nat.add_mul] at this
  rw [show o + a * k + i * k + j = o + (a * k + i * k) + j by omega]
  exact this

/-- A slice of the call's own that holds l. -/
def Own (enc : α → List Value) (k : Nat) (e : TypeId) (w : World) (base : Nat) (v : Value) (l : List α) : Prop := w.ownsRow base e k v l.length (l.flatMap enc)

theorem Own.nil (w : World) (base : Nat) (e : TypeId) : Own enc k e w base (.slice none 0 0) [] := World.ownsRow_nil w base e k
variable {e : TypeId} {base : Nat} {v : Value}
theorem Own.drew (h : Own enc k e w base v l) : Own enc k e w.drew base v l := h
theorem Own.drewN (h : Own enc k e w base v l) (n : Nat) : Own enc k e (w.drewN n) base v l := h
theorem Own.form (h : Own enc k e w base v l) : ∃ A c, v = .slice A l.length c ∧ l.length ≤ c ∧ c ≤ maxLen ∧ ∀ g, v.ownBlock = some g → base ≤ g ∧ g < w.heap.size := by
  have hlt := h.lt
  rcases h.2 with ⟨e, h0⟩ | ⟨g, cap, cur, hv, hb, hg, hn, hm, _⟩
  · exact ⟨none, 0, by rw [e, h0], by omega, Nat.zero_le _, hlt⟩
  · exact ⟨some ⟨g, 0, none⟩, cap, hv, hn, hm, hlt⟩
theorem Own.reads {n c : Nat} (hk : ∀ x : α, (enc x).length = k) (h : Own enc k e w base (.slice A n c) l) : Rw enc k w w.heap.size A l := fun hn => by
  obtain ⟨g, cap, hv, _, hlt⟩ := World.ownsRow.form h hn
  simp only [Value.slice.injEq] at hv
  obtain ⟨rfl, rfl, rfl⟩ := hv
  refine ⟨g, 0, rfl, hlt, fun i x hx j u hu => ?_⟩
  have hf := flat_at hk hx hu
  have hil := (List.getElem?_eq_some_iff.1 hf).1
  rw [flat_len hk] at hil
  rw [Nat.zero_add, World.ownsRow.cellAt h _ hil]
  exact hf
theorem Own.below (h : Own enc k e w base v l) {C : Nat} (hb : Below C w w') (hB : ∀ g, v.ownBlock = some g → g < C) : Own enc k e w' base v l := by
  refine ⟨h.1, ?_⟩
  rcases h.2 with hn | ⟨g, cap, cur, rfl, hb1, hg, r⟩
  · exact .inl hn
  · exact .inr ⟨g, cap, cur, rfl, hb1, (hb.block g (hB g rfl)).trans hg, r⟩
theorem Own.all (h : Own enc k e w base v l) (hb : Below w.heap.size w w') : Own enc k e w' base v l := h.below hb fun g hg => (h.lt g hg).2
theorem Own.alloc (h : Own enc k e w base v l) (o : Obj) : Own enc k e (w.alloc o) base v l := h.all ((Below.refl _ _).alloc (Nat.le_refl _) o)
theorem Own.setCell (h : Own enc k e w base v l) {p : Addr} (hp : ∀ g, v.ownBlock = some g → g ≠ p.block) (u : Value) : Own enc k e (w.setCell p u) base v l := by
  refine ⟨h.1, ?_⟩
  rcases h.2 with hn | ⟨g, cap, cur, rfl, hb1, hg, r⟩
  · exact .inl hn
  · exact .inr ⟨g, cap, cur, rfl, hb1, (Below.heap_setCell w p u g (hp g rfl)).trans hg, r⟩
theorem Own.grown (h : Own enc k e w base v l) {row : Option Nat} (hg : w.grownBy w' row) (hne : ∀ g, v.ownBlock = some g → some g ≠ row) : Own enc k e w' base v l := by
  refine h.kept hg ?_
  cases hv : v.ownBlock with
  | none => exact .inl rfl
  | some g => exact .inr (hne g hv)
theorem Own.lit (cs : Array Value) (hb : base ≤ w.heap.size) (hm : l.length ≤ maxLen) (hs : cs.toList = l.flatMap enc) (hk : ∀ x : α, (enc x).length = k) :
    Own enc k e (w.alloc (.cells cs e)) base (.slice (some ⟨w.heap.size, 0, none⟩) l.length l.length) l := by
  have h := World.ownsRow_lit (base := base) (e := e) (size := k) w cs l.length hb hm (by rw [← Array.length_toList, hs, flat_len hk])
  unfold Own
  rw [← hs]
  exact h
end

section
variable {P : Program} (w : World) {α : Type} {enc : α → List Value} {k : Nat}

theorem run_append_none (base : Nat) (t ty e : TypeId) (i : TypeInfo) (size : Nat) (ht : P.underlying t = some (.slice e)) (hi : P.info? e = some i)
    (v : Value) (n : Nat) (xs : List Value) (hown : w.ownsRow base e size v n xs) (A : Option Addr) (c : Nat) : (Builtin.append_ #[t, t] ty #[v, .slice A 0 c]).run P w = .ok v w := by
  rcases hown.2 with ⟨rfl, rfl⟩ | ⟨g, cap, cur, rfl, _, _, hnc, _⟩
  · cases A <;> simp [Builtin.append_, run_underlying ht, sizeOf, typeInfo, hi, Builtin.lenOf, Builtin.firstCells, loadCells, loadCellsFrom]
  · cases A <;> simp [Builtin.append_, run_underlying ht, sizeOf, typeInfo, hi, Builtin.lenOf, Builtin.firstCells, hnc, storeCells, loadCells, loadCellsFrom]

theorem run_append_rw (hk : ∀ x : α, (enc x).length = k) (h1 : ∀ x : α, ∀ u ∈ enc x, u.oneCell' = true) (base : Nat) (t ty e : TypeId) (i : TypeInfo) (z : Value) (bytes : Nat) (ht : P.underlying t = some (.slice e)) (hi : P.info? e = some i) (hz : i.zero = some z)
    (hsize : i.size = k) (hby : i.bytes = bytes) (hzs : z.cells.size = k) (hsz : 0 < k)
    (v : Value) (xs : List α) (hown : Own enc k e w base v xs)
    (B : Nat) (A : Option Addr) (c : Nat) (ys : List α) (hr : Rw enc k w B A ys)
    (h63 : xs.length + ys.length ≤ maxLen) (hbytes : (xs.length + ys.length) * bytes ≤ 140737488355328) (hbase : base ≤ w.heap.size) :
    ∃ v' w', (Builtin.append_ #[t, t] ty #[v, .slice A ys.length c]).run P w = .ok v' w' ∧ Own enc k e w' base v' (xs ++ ys) ∧ w.grownBy w' v.ownBlock ∧
      (v'.ownBlock = v.ownBlock ∨ v'.ownBlock = some w.heap.size) := by
  rcases Nat.eq_zero_or_pos ys.length with h0 | h0
  · have hy : ys = [] := List.eq_nil_of_length_eq_zero h0
    subst hy
    exact ⟨v, w, run_append_none w base t ty e i k ht hi v xs.length _ hown A c, by simpa using hown, World.grownBy.refl w _, .inl rfl⟩
  · obtain ⟨g, o, rfl, _, hc⟩ := hr.flat hk h0
    obtain ⟨v', w', hrun, h2, h3, _, h5⟩ := run_append_own_at (P := P) w base t ty e i z k bytes ht hi hz hsize hby hzs hsz v xs.length _ hown ⟨g, o, none⟩ ys.length c (ys.flatMap enc) (flat_len hk ys)
      (fun j u hu => by rw [addr_plain]; exact hc j u hu) (fun u hu => by obtain ⟨x, _, hx⟩ := List.mem_flatMap.1 hu; exact h1 x u hx) h63 hbytes hbase
    refine ⟨v', w', hrun, ?_, h3, h5⟩
    unfold Own
    rw [List.length_append, List.flatMap_append]
    exact h2

theorem wp_append_rw {o : Oper} {a : Act} {K : Act → World → Prop} {Q : Exit → Act → World → Prop} (s x : Operand) (t : TypeId)
    (ho : o.op = .call { callee := .builtin .append, args := #[s, x], argTypes := #[t, t] })
    (hk : ∀ x : α, (enc x).length = k) (h1 : ∀ x : α, ∀ u ∈ enc x, u.oneCell' = true) (base : Nat) (e : TypeId) (i : TypeInfo) (z : Value) (bytes : Nat) (ht : P.underlying t = some (.slice e)) (hi : P.info? e = some i) (hz : i.zero = some z)
    (hsize : i.size = k) (hby : i.bytes = bytes) (hzs : z.cells.size = k) (hsz : 0 < k)
    (v : Value) (xs : List α) (hs : a.eval s = v) (hown : Own enc k e w base v xs)
    (B : Nat) (A : Option Addr) (m c : Nat) (ys : List α) (hm : ys.length = m) (hx : a.eval x = .slice A m c) (hr : Rw enc k w B A ys)
    (h63 : xs.length + m ≤ maxLen) (hbytes : (xs.length + m) * bytes ≤ 140737488355328) (hbase : base ≤ w.heap.size)
    (h : ∀ v' w', Own enc k e w' base v' (xs ++ ys) → w.grownBy w' v.ownBlock → (v'.ownBlock = v.ownBlock ∨ v'.ownBlock = some w.heap.size) → K (a.put o.dst v') w') : o.wp P a w K Q := by
  subst hm
  obtain ⟨v', w', hrun, h2, h3, h4⟩ := run_append_rw (P := P) w hk h1 base t o.type e i z bytes ht hi hz hsize hby hzs hsz v xs hown B A c ys hr h63 hbytes hbase
  unfold Oper.wp execOp
  simp only [ho, resolve, invoke, builtin, Sem.run_bind, Sem.run_pure, Result.andThen_ok, List.map_toArray, List.map_cons, List.map_nil, hs, hx, hrun]
  exact h v' w' h2 h3 h4

theorem wpList_append_rw {ops : Array Oper} {rest : List Oper} {o : Oper} {a : Act} {Q : Exit → Act → World → Prop} (hgd : o.guard = none) (s x : Operand) (t : TypeId)
    (ho : o.op = .call { callee := .builtin .append, args := #[s, x], argTypes := #[t, t] })
    (hk : ∀ x : α, (enc x).length = k) (h1 : ∀ x : α, ∀ u ∈ enc x, u.oneCell' = true) (base : Nat) (e : TypeId) (i : TypeInfo) (z : Value) (bytes : Nat) (ht : P.underlying t = some (.slice e)) (hi : P.info? e = some i) (hz : i.zero = some z)
    (hsize : i.size = k) (hby : i.bytes = bytes) (hzs : z.cells.size = k) (hsz : 0 < k)
    (v : Value) (xs : List α) (hs : a.eval s = v) (hown : Own enc k e w base v xs)
    (B : Nat) (A : Option Addr) (m c : Nat) (ys : List α) (hm : ys.length = m) (hx : a.eval x = .slice A m c) (hr : Rw enc k w B A ys)
    (h63 : xs.length + m ≤ maxLen) (hbytes : (xs.length + m) * bytes ≤ 140737488355328) (hbase : base ≤ w.heap.size)
    (h : ∀ v' w', Own enc k e w' base v' (xs ++ ys) → w.grownBy w' v.ownBlock → (v'.ownBlock = v.ownBlock ∨ v'.ownBlock = some w.heap.size) → wpList P ops Q rest (a.put o.dst v') w') : wpList P ops Q (o :: rest) a w :=
  wpList_plain hgd fun _ hK => wp_append_rw w s x t ho hk h1 base e i z bytes ht hi hz hsize hby hzs hsz v xs hs hown B A m c ys hm hx hr h63 hbytes hbase fun v' w' h2 h3 h4 => hK _ _ (h v' w' h2 h3 h4)
end
end Go.Proofs.YtdjepnilmgembaaGreatDoor

namespace Go.Proofs.YtdjepnilmgembaaGreatDoor
open Go.ChangeShapes Go.WideShapes Go.ChangeAt Go.RowKit

section
variable {H : Type} {enc : TypeId × Value → H} {P : Program}

theorem trodAll_length {w : World} {base : Nat} {sp : Nat → Bool} {hd : Bool} : ∀ {ts : List TypeId} {vs : List Value} {ds : List (DataW H)} {ps : List MemPlace}, DataW.TrodAll enc P w base sp hd ts vs ds ps → ds.length = ts.length ∧ vs.length = ts.length
  | [], [], [], _, _ => ⟨rfl, rfl⟩
  | [], [], _ :: _, _, h => h.elim
  | [], _ :: _, _, _, h => h.elim
  | _ :: _, [], _, _, h => h.elim
  | _ :: _, _ :: _, [], _, h => h.elim
  | t :: ts, v :: vs, d :: ds, ps, h => by
    obtain ⟨p, q, _, hrest, _⟩ := h
    have := trodAll_length hrest
    simp [this.1, this.2]

/-- Readings stay, an argument at a time, where nothing that was there has turned. -/
theorem trodAll_stays {W W' : World} {sp : Nat → Bool} (hl : laidOutB P = true) (hb : Below W.heap.size W W') :
    ∀ {ts : List TypeId} {vs : List Value} {ds : List (DataW H)} {ps : List MemPlace}, (ts.all fun t => P.readableRec t && decide (t < P.types.size)) = true →
      DataW.TrodAll enc P W 0 (fun _ => true) true ts vs ds ps → (∀ x ∈ ps, x.block < W.heap.size) → (∀ x ∈ ps, sp x.block = true) →
      DataW.TrodAll enc P W' 0 sp true ts vs ds ps
  | [], [], [], _, _, h, _, _ => h
  | [], [], _ :: _, _, _, h, _, _ => h.elim
  | [], _ :: _, _, _, _, h, _, _ => h.elim
  | _ :: _, [], _, _, _, h, _, _ => h.elim
  | _ :: _, _ :: _, [], _, _, h, _, _ => h.elim
  | t :: ts, v :: vs, d :: ds, ps, hts, h, hlt, hsp => by
    obtain ⟨p, q, hd, hrest, rfl⟩ := h
    simp only [List.all_cons, Bool.and_eq_true, decide_eq_true_eq] at hts
    exact ⟨p, q, WideElems.Trod_stays hl hts.1.1 hts.1.2 hd (fun x hx => hb.same (hlt x (by simp [hx]))) (fun x hx => hsp x (by simp [hx])),
      trodAll_stays hl hb hts.2 hrest (fun x hx => hlt x (by simp [hx])) (fun x hx => hsp x (by simp [hx])), rfl⟩

/-- 'post' of a law: true, and each argument reads as it read. -/
theorem law_post {f : Func} {s : ChangeSpec} {apart fresh handsOn again : Bool} {W W' : World} {args : Array Value} {ds : List (DataW H)} {before : List MemPlace}
    (hW : DataW.Whole enc P f.params.toList s.vars apart W args.toList ds [] before) (hvars : s.vars = [])
    (hA : DataW.TrodAll enc P W 0 (fun _ => true) true f.params.toList args.toList ds before)
    (hts : (f.params.toList.all fun t => P.readableRec t && decide (t < P.types.size)) = true)
    {tb : TypeId} (hl : laidOutB P = true) (htb : P.underlying tb = some .bool) (hrt : f.resultTypes = #[tb]) (hfn : s.fn H (ds ++ []) = { results := [.lit (.bool true)], args := ds }) (hb : Below W.heap.size W W') :
    s.post enc P f apart fresh handsOn again W args (.bool true) W' := by
  have hlt : ∀ p ∈ before, p.block < W.heap.size := fun p hp => hW.lt p hp
  have hold : ∀ p ∈ before, (fun b => decide (b < W.heap.size)) p.block = true := fun p hp => by simpa using hlt p hp
  have hres : ∀ (b : Nat) (sp : Nat → Bool) (hd : Bool), DataW.TrodAll enc P W' b sp hd f.resultTypes.toList ((Value.bool true).resultList f.resultTypes.size) (s.fn H (ds ++ [])).results [] := by
    intro b sp hd
    rw [hfn, hrt]
    exact trodAll_mk1 (shut_bool htb _)
  have hargs : ∀ sp : Nat → Bool, (∀ p ∈ before, sp p.block = true) → DataW.TrodAll enc P W' 0 sp true f.params.toList args.toList (s.fn H (ds ++ [])).args before := by
    intro sp hsp
    rw [hfn]
    exact trodAll_stays hl hb hts hA hlt hsp
  have hvs : ∀ sp : Nat → Bool, DataW.TrodVars enc P W' sp s.vars (s.fn H (ds ++ [])).vars [] := by
    intro sp
    rw [hfn, hvars]
    exact rfl
  refine ⟨ds, [], before, [], before, [], hW, hres _ _ _, hargs _ hold, hvs _, World.keptBut_mono (fun p hp => ⟨hp, Or.inr (by simpa using hp)⟩) (hb.frame (· ∈ before)), fun _ => ?_⟩
  obtain ⟨_, _, _, _, _, hz, hn⟩ := hW
  refine ⟨ok_one hrt rfl (okWide_bool_mk htb _), _, _, ([] ++ before) ++ [], ⟨[] ++ before, [], trodAll_append (hargs _ (fun _ _ => rfl)) (hres _ _ _), hvs _, rfl, ?_, ?_⟩, ?_⟩
  · intro b off hp
    have hin : MemPlace.cell b off ∈ before := by simpa using hp
    rw [hb.frozen (hlt _ hin)]
    exact hz b off hin
  · intro ha
    simpa using hn ha
  · intro p hp _
    simpa using hp
end
end Go.Proofs.YtdjepnilmgembaaGreatDoor

namespace Go.Proofs.YtdjepnilmgembaaGreatDoor
open Go.ChangeShapes Go.WideShapes Go.ChangeAt Go.RowKit

section
variable {H : Type} {enc : TypeId × Value → H} {P : Program}

theorem slice_read {w : World} {t e : TypeId} {r : Reach} {b0 : Nat} {v : Value} {d : DataW H} {p : List MemPlace} (ht : P.underlying t = some (.slice e)) (hs : 0 < P.cellsOf e)
    (hok : Value.okWide P w r b0 t v) (h : DataW.Trod enc P w 0 (fun _ => true) true t v d p) :
    ∃ A n c, v = .slice A n c ∧ n ≤ c ∧ c ≤ maxLen ∧ (0 < n → ∃ g o fuel, A = some ⟨g, o, none⟩ ∧ g < w.heap.size ∧
      ∀ i, i < n → ∃ cs x, cs.length = P.cellsOf e ∧ (∀ j, j < P.cellsOf e → w.cell? ⟨g, o + i * P.cellsOf e + j, none⟩ = cs[j]?) ∧ DataW.trod enc P w 0 (fun _ => true) true fuel e cs = some x) := by
  obtain ⟨A, n, c, rfl⟩ := okWide_slice ht hok
  obtain ⟨fuel, hf⟩ := h
  rcases Go.Deep.open_slice ht hf with ⟨hcs, _⟩ | ⟨a, len, cap, m, k, D, Pl, hcs, _, hl, hm, hmm, _, hx⟩
  · simp [Value.cells] at hcs
    obtain ⟨rfl, rfl, rfl⟩ := hcs
    exact ⟨none, 0, 0, rfl, Nat.le_refl _, Nat.zero_le _, fun h => absurd h (by omega)⟩
  · simp [Value.cells] at hcs
    obtain ⟨rfl, e1, e2⟩ := hcs
    subst e1 e2
    simp only [if_true] at hmm
    subst hmm
    refine ⟨some a, _, _, rfl, hl, hm, fun hn => ?_⟩
    obtain ⟨cs0, h0, _⟩ := hx 0 (by omega)
    obtain ⟨_, hlen0, hc0⟩ := World.cells?_some h0
    have hz := hc0 0 hs
    rw [List.getElem?_eq_getElem (by omega)] at hz
    have hsp := World.cell?_spot hz
    have hlt := World.block_lt_of_cell? w _ hz
    simp only [Nat.zero_mul, Go.Deep.add_add, Nat.zero_add] at hsp hlt
    simp [Addr.add] at hsp hlt
    obtain ⟨g, o, s⟩ := a
    simp at hsp hlt
    subst hsp
    refine ⟨g, o, k, rfl, hlt, fun i hi => ?_⟩
    obtain ⟨cs', h1, h2⟩ := hx i (by omega)
    obtain ⟨_, hlen, hc⟩ := World.cells?_some h1
    refine ⟨cs', _, hlen, fun j hj => ?_, h2⟩
    have := hc j hj
    rwa [Go.Deep.add_add, add_plain, ← Nat.add_assoc] at this
end
end Go.Proofs.YtdjepnilmgembaaGreatDoor

namespace Go.Proofs.YtdjepnilmgembaaGreatDoor
open Go.ChangeShapes Go.WideShapes Go.ChangeAt Go.RowKit

section
variable {H : Type} {enc : TypeId × Value → H} {P : Program} {w : World} {base : Nat} {sp : Nat → Bool} {hd : Bool}

theorem trod_fields {t : TypeId} {fs : Array Field} {fuel : Nat} {cs : List Value} {x : DataW H × List MemPlace} (ht : P.underlying t = some (.struct fs)) (h : DataW.trod enc P w base sp hd fuel t cs = some x) :
    cs.length = P.cellsOf t ∧ ∀ (i : Nat) (f : Field), fs[i]? = some f → ∃ n y, DataW.trod enc P w base sp hd n f.type ((cs.drop f.offset).take (P.cellsOf f.type)) = some y := by
  obtain ⟨xs, n, _, _, hl, hxl, hf⟩ := DataW.trod_struct ht h
  refine ⟨hl, fun i f hi => ?_⟩
  have hlt : i < xs.length := by rw [hxl]; exact (Array.getElem?_eq_some_iff.1 hi).1
  exact ⟨n, xs[i], by rw [hf i f hi]; exact List.getElem?_eq_getElem hlt⟩

theorem leaf_string {t : TypeId} {fuel : Nat} {cs : List Value} {x : DataW H × List MemPlace} (ht : P.underlying t = some .string) (h : DataW.trod enc P w base sp hd fuel t cs = some x) :
    ∃ s : { s : ByteArray // s.size ≤ 9223372036854775807 }, cs = [.string s.1] := by
  obtain ⟨s, e, _, z⟩ := DataW.trod_string ht h
  exact ⟨⟨s, z⟩, e⟩
theorem leaf_int {t : TypeId} {fuel : Nat} {cs : List Value} {x : DataW H × List MemPlace} (ht : P.underlying t = some (.int .i64)) (h : DataW.trod enc P w base sp hd fuel t cs = some x) :
    ∃ n : { n : Int // -9223372036854775808 ≤ n ∧ n ≤ 9223372036854775807 }, cs = [.int .i64 n.1] := by
  obtain ⟨n, e, _, z⟩ := DataW.trod_int ht h
  exact ⟨⟨n, bounds_i64 z⟩, e⟩
theorem leaf_bool {t : TypeId} {fuel : Nat} {cs : List Value} {x : DataW H × List MemPlace} (ht : P.underlying t = some .bool) (h : DataW.trod enc P w base sp hd fuel t cs = some x) :
    ∃ b : Bool, cs = [.bool b] := by
  obtain ⟨b, e, _⟩ := DataW.trod_bool ht h
  exact ⟨b, e⟩

/-- A struct by value. -/
theorem open_val {α : Type} {E : α → List Value} {t : TypeId} {fs : Array Field} {r : Reach} {b0 : Nat} {v : Value} {d : DataW H} {p : List MemPlace} (ht : P.underlying t = some (.struct fs))
    (hel : ∀ fuel cs x, DataW.trod enc P w base sp hd fuel t cs = some x → ∃ y : α, cs = E y) (hv : Value.okWide P w r b0 t v) (h : DataW.Trod enc P w base sp hd t v d p) :
    ∃ y : α, v = .agg (E y).toArray := by
  obtain ⟨cs, rfl, _⟩ := okWide_struct ht hv
  obtain ⟨fuel, hf⟩ := h
  obtain ⟨y, e⟩ := hel _ _ _ hf
  refine ⟨y, ?_⟩
  have e2 : cs.toList = E y := by simpa [Value.cells] using e
  rw [← e2]

/-- A slice of values of a type. -/
theorem open_rows {α : Type} [Inhabited α] {E : α → List Value} {k : Nat} (hk : ∀ x : α, (E x).length = k) (h0 : 0 < k) {t e : TypeId} {r : Reach} {b0 : Nat} {v : Value} {d : DataW H} {p : List MemPlace} (ht : P.underlying t = some (.slice e)) (hc : P.cellsOf e = k)
    (hel : ∀ fuel cs x, DataW.trod enc P w 0 (fun _ => true) true fuel e cs = some x → ∃ y : α, cs = E y) (hv : Value.okWide P w r b0 t v) (h : DataW.Trod enc P w 0 (fun _ => true) true t v d p) :
    ∃ (A : Option Addr) (l : List α) (c : Nat), v = .slice A l.length c ∧ l.length ≤ c ∧ c ≤ maxLen ∧ Rw E k w w.heap.size A l := by
  obtain ⟨A, n, c, rfl, hn, hcm, hrd⟩ := slice_read ht (by omega) hv h
  rw [hc] at hrd
  by_cases hpos : 0 < n
  · obtain ⟨g, o, fuel, rfl, hg, hx⟩ := hrd hpos
    have hx2 : ∀ i, ∃ y : α, i < n → ∀ j u, (E y)[j]? = some u → w.cell? ⟨g, o + i * k + j, none⟩ = some u := by
      intro i
      by_cases hi : i < n
      · obtain ⟨cs, x, hl, hcell, htr⟩ := hx i hi
        obtain ⟨y, e⟩ := hel _ _ _ htr
        refine ⟨y, fun _ j u hu => ?_⟩
        rw [hcell j (by rw [← hk y]; exact (List.getElem?_eq_some_iff.1 hu).1), e]
        exact hu
      · exact ⟨default, fun h => absurd h hi⟩
    refine ⟨_, (List.range n).map fun i => (hx2 i).choose, c, by simp, by simpa using hn, hcm, fun _ => ⟨g, o, rfl, hg, fun i x hxi j u hu => ?_⟩⟩
    rw [List.getElem?_map] at hxi
    by_cases hi : i < n
    · rw [List.getElem?_range hi] at hxi
      simp only [Option.map_some, Option.some.injEq] at hxi
      rw [← hxi] at hu
      exact (hx2 i).choose_spec hi j u hu
    · rw [List.getElem?_eq_none (by simp; omega)] at hxi
      cases hxi
  · obtain rfl : n = 0 := by omega
    exact ⟨A, [], c, rfl, by simp, hcm, Rw.nil⟩
end
end Go.Proofs.YtdjepnilmgembaaGreatDoor
