/-
  Plain laws of the natural order of strings: runs of digits, their numbers, the comparison of two strings; it is a strict order that parts whatever two strings differ.
-/
import Derived.Below
import Derived.Lib.Strings
namespace Go.Proofs.YtnahbfmbmpoljaaGreatDoor.Id

def dig (c : UInt8) : Bool := decide (48 ≤ c.toNat) && decide (c.toNat ≤ 57)
/-- How many digits a text begins with. -/
def runN : List UInt8 → Nat
  | [] => 0
  | c :: l => if dig c then runN l + 1 else 0
/-- A text without its leading zeros. -/
def strip : List UInt8 → List UInt8
  | [] => []
  | c :: l => if c = 48 then strip l else c :: l
def cmpI (a b : Int) : Int := if a < b then -1 else if b < a then 1 else 0
def cmpB (a b : List UInt8) : Int := if Op.bytesLess a b then -1 else if a = b then 0 else 1
def or3 (a b c : Int) : Int := if a ≠ 0 then a else if b ≠ 0 then b else c
/-- How two runs of digits are ordered. -/
def nums (a b : List UInt8) : Int :=
  or3 (cmpI (strip a).length (strip b).length) (cmpB (strip a) (strip b)) (cmpI a.length b.length)
/-- How two texts are ordered. -/
def cmpF : Nat → List UInt8 → List UInt8 → Int
  | 0, a, b => cmpI a.length b.length
  | k + 1, a, b =>
    if a = [] ∨ b = [] then cmpI a.length b.length else
    if runN a ≠ 0 ∧ runN b ≠ 0 then
      if nums (a.take (runN a)) (b.take (runN b)) ≠ 0 then nums (a.take (runN a)) (b.take (runN b)) else cmpF k (a.drop (runN a)) (b.drop (runN b))
    else if a.head? ≠ b.head? then cmpI (a.headD 0).toNat (b.headD 0).toNat else cmpF k a.tail b.tail
def cmpN (a b : List UInt8) : Int := cmpF a.length a b

theorem runN_le (l : List UInt8) : runN l ≤ l.length := by
  induction l with
  | nil => simp [runN]
  | cons c l ih => unfold runN; split <;> simp; omega

theorem cmpF_enough : ∀ (k m : Nat) (a b : List UInt8), a.length ≤ k → a.length ≤ m → cmpF k a b = cmpF m a b := by
  intro k
  induction k with
  | zero =>
    intro m a b h h2
    have ha : a = [] := List.eq_nil_of_length_eq_zero (by omega)
    subst ha
    cases m <;> simp [cmpF]
  | succ k ih =>
    intro m a b h h2
    cases m with
    | zero =>
      have ha : a = [] := List.eq_nil_of_length_eq_zero (by omega)
      subst ha
      simp [cmpF]
    | succ m =>
      unfold cmpF
      by_cases h1 : a = [] ∨ b = []
      · rw [if_pos h1, if_pos h1]
      · rw [if_neg h1, if_neg h1]
        have hp : 0 < a.length := List.length_pos_iff.2 (fun e => h1 (.inl e))
        by_cases h3 : runN a ≠ 0 ∧ runN b ≠ 0
        · rw [if_pos h3, if_pos h3, ih m (a.drop (runN a)) (b.drop (runN b)) (by simp; omega) (by simp; omega)]
        · rw [if_neg h3, if_neg h3, ih m a.tail b.tail (by simp; omega) (by simp; omega)]

theorem cmpN_end {a b : List UInt8} (h : a = [] ∨ b = []) : cmpN a b = cmpI a.length b.length := by
  unfold cmpN
  cases hl : a.length with
  | zero => simp [cmpF, hl]
  | succ k => unfold cmpF; rw [if_pos h, hl]

theorem cmpN_run {a b : List UInt8} (ha : a ≠ []) (hb : b ≠ []) (h1 : runN a ≠ 0) (h2 : runN b ≠ 0) :
    cmpN a b = if nums (a.take (runN a)) (b.take (runN b)) ≠ 0 then nums (a.take (runN a)) (b.take (runN b)) else cmpN (a.drop (runN a)) (b.drop (runN b)) := by
  have hp : 0 < a.length := List.length_pos_iff.2 ha
  obtain ⟨k, hk⟩ : ∃ k, a.length = k + 1 := ⟨a.length - 1, by omega⟩
  unfold cmpN
  rw [hk]
  conv => lhs; unfold cmpF
  rw [if_neg (by simp [ha, hb]), if_pos ⟨h1, h2⟩, cmpF_enough k (a.drop (runN a)).length _ _ (by simp; omega) (Nat.le_refl _)]

theorem cmpN_byte {a b : List UInt8} (ha : a ≠ []) (hb : b ≠ []) (h : ¬ (runN a ≠ 0 ∧ runN b ≠ 0)) :
    cmpN a b = if a.head? ≠ b.head? then cmpI (a.headD 0).toNat (b.headD 0).toNat else cmpN a.tail b.tail := by
  have hp : 0 < a.length := List.length_pos_iff.2 ha
  obtain ⟨k, hk⟩ : ∃ k, a.length = k + 1 := ⟨a.length - 1, by omega⟩
  unfold cmpN
  rw [hk]
  conv => lhs; unfold cmpF
  rw [if_neg (by simp [ha, hb]), if_neg h, cmpF_enough k a.tail.length _ _ (by simp; omega) (Nat.le_refl _)]

/- The order of lists of numbers. -/
def lexC : List Nat → List Nat → Int
  | [], [] => 0
  | [], _ :: _ => -1
  | _ :: _, [] => 1
  | a :: x, b :: y => if a < b then -1 else if b < a then 1 else lexC x y

theorem lexC_cons (a b : Nat) (x y : List Nat) : lexC (a :: x) (b :: y) = if a < b then -1 else if b < a then 1 else lexC x y := rfl
theorem lexC_self (x : List Nat) : lexC x x = 0 := by induction x <;> simp [lexC, *]
theorem lexC_eq : ∀ {x y : List Nat}, lexC x y = 0 → x = y
  | [], [], _ => rfl
  | [], _ :: _, h => by simp [lexC] at h
  | _ :: _, [], h => by simp [lexC] at h
  | a :: x, b :: y, h => by
    unfold lexC at h
    by_cases h1 : a < b
    · simp [h1] at h
    · by_cases h2 : b < a
      · simp [h1, h2] at h
      · simp only [h1, h2, if_false] at h
        rw [lexC_eq h, show a = b by omega]
theorem lexC_neg : ∀ (x y : List Nat), lexC y x = - lexC x y
  | [], [] => rfl
  | [], _ :: _ => rfl
  | _ :: _, [] => rfl
  | a :: x, b :: y => by
    unfold lexC
    by_cases h1 : a < b
    · simp [h1, show ¬ b < a by omega]
    · by_cases h2 : b < a
      · simp [h1, h2]
      · simp [h1, h2, lexC_neg x y]
theorem lexC_vals : ∀ (x y : List Nat), lexC x y = -1 ∨ lexC x y = 0 ∨ lexC x y = 1
  | [], [] => by simp [lexC]
  | [], _ :: _ => by simp [lexC]
  | _ :: _, [] => by simp [lexC]
  | a :: x, b :: y => by
    unfold lexC
    have := lexC_vals x y
    by_cases h1 : a < b
    · simp [h1]
    · by_cases h2 : b < a <;> simp [h1, h2, this]
theorem lexC_trans : ∀ {x y z : List Nat}, lexC x y < 0 → lexC y z < 0 → lexC x z < 0
  | [], [], _, h, _ => by simp [lexC] at h
  | _ :: _, [], _, h, _ => by simp [lexC] at h
  | [], _ :: _, [], _, h => by simp [lexC] at h
  | [], _ :: _, _ :: _, _, _ => by simp [lexC]
  | _ :: _, _ :: _, [], _, h => by simp [lexC] at h
  | a :: x, b :: y, c :: z, h, h2 => by
    unfold lexC at h h2 ⊢
    by_cases h3 : a < b
    · by_cases h4 : b < c
      · simp [show a < c by omega]
      · by_cases h5 : c < b
        · simp [h4, h5] at h2
        · simp [show a < c by omega]
    · by_cases h6 : b < a
      · simp [h3, h6] at h
      · simp only [h3, h6, if_false] at h
        by_cases h4 : b < c
        · simp [show a < c by omega]
        · by_cases h5 : c < b
          · simp [h4, h5] at h2
          · simp only [h4, h5, if_false] at h2
            simp only [show ¬ a < c by omega, show ¬ c < a by omega, if_false]
            exact lexC_trans h h2
theorem lexC_app : ∀ {x y u v : List Nat}, x.length = y.length → lexC (x ++ u) (y ++ v) = if lexC x y ≠ 0 then lexC x y else lexC u v
  | [], [], _, _, _ => by simp [lexC]
  | [], _ :: _, _, _, h => by simp at h
  | _ :: _, [], _, _, h => by simp at h
  | a :: x, b :: y, u, v, h => by
    simp only [List.cons_append, lexC_cons]
    by_cases h1 : a < b
    · simp [h1]
    · by_cases h2 : b < a
      · simp [h1, h2]
      · simp only [h1, h2, if_false]
        exact lexC_app (by simpa using h)

/- A text as a list of numbers that is ordered as the text is. -/
def codeF : Nat → List UInt8 → List Nat
  | 0, _ => []
  | _ + 1, [] => []
  | k + 1, c :: l =>
    if dig c then 48 :: (strip ((c :: l).take (runN (c :: l)))).length :: ((strip ((c :: l).take (runN (c :: l)))).map UInt8.toNat ++ (runN (c :: l) :: codeF k ((c :: l).drop (runN (c :: l)))))
    else c.toNat :: codeF k l

theorem codeF_cons (k : Nat) (c : UInt8) (l : List UInt8) : ∃ x y, codeF (k + 1) (c :: l) = x :: y := by
  unfold codeF; split
  · exact ⟨_, _, rfl⟩
  · exact ⟨_, _, rfl⟩
theorem codeF_nil : ∀ (k : Nat), codeF k [] = []
  | 0 => rfl
  | _ + 1 => rfl
theorem cmp_nl (k m : Nat) (d : UInt8) (b : List UInt8) : cmpF k [] (d :: b) = lexC (codeF k []) (codeF (m + 1) (d :: b)) := by
  obtain ⟨x, y, e⟩ := codeF_cons m d b
  rw [e, codeF_nil]
  have h : cmpI (([] : List UInt8).length : Int) ((d :: b).length : Int) = -1 := by unfold cmpI; rw [if_pos (by simp only [List.length_nil, List.length_cons]; omega)]
  cases k with
  | zero => exact h
  | succ k => unfold cmpF; rw [if_pos (by simp)]; exact h
theorem cmp_ln (k m : Nat) (d : UInt8) (b : List UInt8) : cmpF (k + 1) (d :: b) [] = lexC (codeF (k + 1) (d :: b)) (codeF m []) := by
  obtain ⟨x, y, e⟩ := codeF_cons k d b
  rw [e, codeF_nil]
  unfold cmpF
  rw [if_pos (by simp)]
  unfold cmpI
  rw [if_neg (by simp only [List.length_nil, List.length_cons]; omega), if_pos (by simp only [List.length_nil, List.length_cons]; omega)]
  rfl
theorem cmp_nn (k m : Nat) : cmpF k [] [] = lexC (codeF k []) (codeF m []) := by
  rw [codeF_nil, codeF_nil]
  cases k <;> simp [cmpF, cmpI, lexC]

theorem cmpB_lex : ∀ {x y : List UInt8}, x.length = y.length → cmpB x y = lexC (x.map UInt8.toNat) (y.map UInt8.toNat)
  | [], [], _ => rfl
  | [], _ :: _, h => by simp at h
  | _ :: _, [], h => by simp at h
  | a :: x, b :: y, h => by
    have ih := cmpB_lex (x := x) (y := y) (by simpa using h)
    unfold cmpB at ih ⊢
    simp only [List.map_cons]
    unfold lexC Op.bytesLess
    by_cases h1 : a < b
    · simp [h1, UInt8.lt_iff_toNat_lt.1 h1]
    · have h1' : ¬ a.toNat < b.toNat := fun h => h1 (UInt8.lt_iff_toNat_lt.2 h)
      by_cases h2 : b.toNat < a.toNat
      · have h3 : ¬ a = b := fun e => by subst e; omega
        simp [h1, h1', h2, h3]
      · have h3 : a = b := UInt8.toNat_inj.1 (by omega)
        subst h3
        simp only [h1, h1', if_false, decide_false, Bool.false_or, beq_self_eq_true, Bool.true_and, List.cons.injEq, true_and]
        exact ih

theorem runN_pos {c : UInt8} {l : List UInt8} : runN (c :: l) ≠ 0 ↔ dig c = true := by
  unfold runN; split <;> simp_all

theorem cmpI_vals (a b : Int) : cmpI a b = -1 ∨ cmpI a b = 0 ∨ cmpI a b = 1 := by
  unfold cmpI; by_cases h : a < b <;> by_cases h2 : b < a <;> simp [h, h2]

theorem cmpF_code : ∀ (k m : Nat) (a b : List UInt8), a.length ≤ k → b.length ≤ m → cmpF k a b = lexC (codeF k a) (codeF m b) := by
  intro k
  induction k with
  | zero =>
    intro m a b h h2
    have ha : a = [] := List.eq_nil_of_length_eq_zero (by omega)
    subst ha
    cases b with
    | nil => exact cmp_nn _ _
    | cons d b =>
      cases m with
      | zero => simp at h2
      | succ m => exact cmp_nl _ _ _ _
  | succ k ih =>
    intro m a b h h2
    cases a with
    | nil =>
      cases b with
      | nil => exact cmp_nn _ _
      | cons d b =>
        cases m with
        | zero => simp at h2
        | succ m => exact cmp_nl _ _ _ _
    | cons c a =>
      cases b with
      | nil => exact cmp_ln _ _ _ _
      | cons d b =>
        cases m with
        | zero => simp at h2
        | succ m =>
          have ra := runN_le (c :: a)
          have rb := runN_le (d :: b)
          unfold cmpF codeF
          rw [if_neg (by simp)]
          by_cases hc : dig c = true
          · by_cases hd : dig d = true
            · rw [if_pos ⟨runN_pos.2 hc, runN_pos.2 hd⟩, if_pos hc, if_pos hd]
              have pa : runN (c :: a) ≠ 0 := runN_pos.2 hc
              have pb : runN (d :: b) ≠ 0 := runN_pos.2 hd
              rw [ih m ((c :: a).drop (runN (c :: a))) ((d :: b).drop (runN (d :: b))) (by simp at h ⊢; omega) (by simp at h2 ⊢; omega)]
              generalize hx : strip ((c :: a).take (runN (c :: a))) = x
              generalize hy : strip ((d :: b).take (runN (d :: b))) = y
              have lx : ((c :: a).take (runN (c :: a))).length = runN (c :: a) := by rw [List.length_take]; omega
              have ly : ((d :: b).take (runN (d :: b))).length = runN (d :: b) := by rw [List.length_take]; omega
              unfold nums
              rw [hx, hy, lx, ly]
              generalize runN (c :: a) = n at *
              generalize runN (d :: b) = o at *
              have e48 : ∀ u v, lexC (48 :: u) (48 :: v) = lexC u v := fun u v => by simp [lexC_cons]
              rw [e48, lexC_cons]
              unfold or3
              by_cases l1 : x.length < y.length
              · simp [cmpI, l1, show (x.length : Int) < y.length by omega]
              · by_cases l2 : y.length < x.length
                · simp [cmpI, l1, l2, show ¬ (x.length : Int) < y.length by omega, show (y.length : Int) < x.length by omega]
                · have l3 : x.length = y.length := by omega
                  rw [if_neg l1, if_neg l2, lexC_app (by simpa using l3), ← cmpB_lex l3]
                  have e0 : cmpI (x.length : Int) y.length = 0 := by simp [cmpI, l3]
                  rw [e0]
                  by_cases hB : cmpB x y = 0
                  · rw [hB]
                    simp only [ne_eq, not_true_eq_false, if_false]
                    rw [lexC_cons]
                    by_cases n1 : n < o
                    · simp [cmpI, n1, show (n : Int) < o by omega]
                    · by_cases n2 : o < n
                      · simp [cmpI, n1, n2, show ¬ (n : Int) < o by omega, show (o : Int) < n by omega]
                      · have n3 : n = o := by omega
                        simp [cmpI, n3]
                  · simp [hB]
            · rw [if_neg (by rw [runN_pos (c := d)]; simp [hd]), if_pos hc, if_neg hd]
              have hne : c ≠ d := fun e => hd (e ▸ hc)
              have hn' : c.toNat ≠ d.toNat := fun e => hne (UInt8.toNat_inj.1 e)
              rw [if_pos (by simpa using hne)]
              simp only [List.headD_cons]
              unfold lexC cmpI
              unfold dig at hc hd
              simp at hc hd
              by_cases l1 : c.toNat < d.toNat
              · rw [if_pos (by omega), if_pos (by omega)]
              · rw [if_neg (by omega), if_pos (by omega), if_neg (by omega), if_pos (by omega)]
          · rw [if_neg (by rw [runN_pos (c := c)]; simp [hc]), if_neg hc]
            by_cases hd : dig d = true
            · rw [if_pos hd]
              have hne : c ≠ d := fun e => hc (e ▸ hd)
              have hn' : c.toNat ≠ d.toNat := fun e => hne (UInt8.toNat_inj.1 e)
              rw [if_pos (by simpa using hne)]
              simp only [List.headD_cons]
              unfold lexC cmpI
              unfold dig at hc hd
              simp at hc hd
              by_cases l1 : c.toNat < d.toNat
              · rw [if_pos (by omega), if_pos (by omega)]
              · rw [if_neg (by omega), if_pos (by omega), if_neg (by omega), if_pos (by omega)]
            · rw [if_neg hd]
              unfold lexC
              simp only [List.headD_cons, List.tail_cons]
              by_cases l1 : c.toNat < d.toNat
              · have hne : c ≠ d := fun e => by subst e; omega
                rw [if_pos (by simpa using hne), if_pos l1]; unfold cmpI; rw [if_pos (by omega)]
              · by_cases l2 : d.toNat < c.toNat
                · have hne : c ≠ d := fun e => by subst e; omega
                  rw [if_pos (by simpa using hne), if_neg l1, if_pos l2]; unfold cmpI; rw [if_neg (by omega), if_pos (by omega)]
                · have he : c = d := UInt8.toNat_inj.1 (by omega)
                  subst he
                  rw [if_neg (by simp), if_neg l1, if_neg l1]
                  exact ih m a b (by simp at h; omega) (by simp at h2; omega)

def code (a : List UInt8) : List Nat := codeF a.length a
theorem cmpN_code (a b : List UInt8) : cmpN a b = lexC (code a) (code b) := cmpF_code _ _ _ _ (Nat.le_refl _) (Nat.le_refl _)

theorem strip_eq : ∀ (r : List UInt8), r = List.replicate (r.length - (strip r).length) 48 ++ strip r ∧ (strip r).length ≤ r.length
  | [] => by simp [strip]
  | c :: l => by
    obtain ⟨h, h2⟩ := strip_eq l
    unfold strip
    by_cases hc : c = 48
    · rw [if_pos hc]
      refine ⟨?_, by simp; omega⟩
      have e : (c :: l).length - (strip l).length = (l.length - (strip l).length) + 1 := by simp; omega
      rw [e, List.replicate_succ, List.cons_append, ← h, hc]
    · rw [if_neg hc]
      simp

theorem codeF_inj : ∀ (k m : Nat) (a b : List UInt8), a.length ≤ k → b.length ≤ m → codeF k a = codeF m b → a = b := by
  intro k
  induction k with
  | zero =>
    intro m a b h h2 he
    have ha : a = [] := List.eq_nil_of_length_eq_zero (by omega)
    subst ha
    cases b with
    | nil => rfl
    | cons d b =>
      cases m with
      | zero => simp at h2
      | succ m => unfold codeF at he; split at he <;> simp at he
  | succ k ih =>
    intro m a b h h2 he
    cases a with
    | nil =>
      cases b with
      | nil => rfl
      | cons d b =>
        cases m with
        | zero => simp at h2
        | succ m => unfold codeF at he; split at he <;> simp at he
    | cons c a =>
      cases b with
      | nil =>
        cases m with
        | zero => unfold codeF at he; split at he <;> simp at he
        | succ m => unfold codeF at he; split at he <;> simp at he
      | cons d b =>
        cases m with
        | zero => simp at h2
        | succ m =>
          have ra := runN_le (c :: a)
          have rb := runN_le (d :: b)
          unfold codeF at he
          by_cases hc : dig c = true
          · have pa : runN (c :: a) ≠ 0 := runN_pos.2 hc
            by_cases hd : dig d = true
            · have pb : runN (d :: b) ≠ 0 := runN_pos.2 hd
              rw [if_pos hc, if_pos hd] at he
              simp only [List.cons.injEq, true_and] at he
              obtain ⟨hl, he⟩ := he
              have hl2 : ((strip ((c :: a).take (runN (c :: a)))).map UInt8.toNat).length = ((strip ((d :: b).take (runN (d :: b)))).map UInt8.toNat).length := by simpa using hl
              obtain ⟨hs, he⟩ := List.append_inj he hl2
              simp only [List.cons.injEq] at he
              obtain ⟨hr, he⟩ := he
              have hs2 : strip ((c :: a).take (runN (c :: a))) = strip ((d :: b).take (runN (d :: b))) := List.map_inj_right (fun _ _ => UInt8.toNat_inj.1) |>.1 hs
              have hd2 := ih m _ _ (by simp at h ⊢; omega) (by simp at h2 ⊢; omega) he
              have lx : ((c :: a).take (runN (c :: a))).length = runN (c :: a) := by rw [List.length_take]; omega
              have ly : ((d :: b).take (runN (d :: b))).length = runN (d :: b) := by rw [List.length_take]; omega
              have t : (c :: a).take (runN (c :: a)) = (d :: b).take (runN (d :: b)) := by
                rw [(strip_eq ((c :: a).take (runN (c :: a)))).1, (strip_eq ((d :: b).take (runN (d :: b)))).1, lx, ly, hs2, hr]
              rw [← List.take_append_drop (runN (c :: a)) (c :: a), ← List.take_append_drop (runN (d :: b)) (d :: b), t, hd2]
            · rw [if_pos hc, if_neg hd] at he
              simp only [List.cons.injEq] at he
              unfold dig at hd
              simp at hd
              omega
          · by_cases hd : dig d = true
            · rw [if_neg hc, if_pos hd] at he
              simp only [List.cons.injEq] at he
              unfold dig at hc
              simp at hc
              omega
            · rw [if_neg hc, if_neg hd] at he
              simp only [List.cons.injEq] at he
              rw [UInt8.toNat_inj.1 he.1, ih m a b (by simp at h; omega) (by simp at h2; omega) he.2]

theorem cmpN_zero {a b : List UInt8} : cmpN a b = 0 ↔ a = b := by
  rw [cmpN_code]
  exact ⟨fun h => codeF_inj _ _ _ _ (Nat.le_refl _) (Nat.le_refl _) (lexC_eq h), fun h => by rw [h, lexC_self]⟩
theorem cmpN_self (a : List UInt8) : cmpN a a = 0 := cmpN_zero.2 rfl
theorem cmpN_neg (a b : List UInt8) : cmpN b a = - cmpN a b := by rw [cmpN_code, cmpN_code, lexC_neg]
theorem cmpN_vals (a b : List UInt8) : cmpN a b = -1 ∨ cmpN a b = 0 ∨ cmpN a b = 1 := by rw [cmpN_code]; exact lexC_vals _ _
theorem cmpN_trans {a b c : List UInt8} (h : cmpN a b < 0) (h2 : cmpN b c < 0) : cmpN a c < 0 := by
  rw [cmpN_code] at *; exact lexC_trans h h2
end Go.Proofs.YtnahbfmbmpoljaaGreatDoor.Id
