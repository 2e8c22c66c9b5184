/-
  Plain laws of labels and requirements: how the program and the reference read one, and that they read alike.
  The walks of labels: a number read, by the program.
-/
import Derived.Test.YtnahbfmbmpoljaaDoorNames4
import Derived.Lib.IndexMore
import Derived.Laws.StructEq
import Derived.Lib.QuietBelow

namespace Go.Proofs.YtnahbfmbmpoljaaDoor

/-- A string's bytes are a name. -/
def nL (l : List UInt8) : Bool := nameB ⟨l.toArray⟩
theorem nL_str (s : ByteArray) : nL s.toList = nameB s := by
  unfold nL
  rw [Lib.toList_data]
/-- The bytes that part a requirement. -/
def sp (c : UInt8) : Bool := decide (c.toNat = 60) || decide (c.toNat = 61) || decide (c.toNat = 62)
theorem nL_no {l : List UInt8} (h : nL l = true) {c : UInt8} (hc : c ∈ l) : sp c = false ∧ c.toNat ≠ 33 := by
  unfold nL nameB at h
  rw [Bool.and_eq_true, List.all_eq_true] at h
  obtain ⟨i, hi⟩ := List.getElem?_of_mem hc
  have hil := (List.getElem?_eq_some_iff.1 hi).1
  have := h.2 i (List.mem_range.2 (by simpa [ByteArray.size] using hil))
  have e : (⟨l.toArray⟩ : ByteArray)[i]! = c := by
    rw [getElem!_pos (⟨l.toArray⟩ : ByteArray) i (by simpa [ByteArray.size] using hil)]
    show l.toArray[i] = c
    simpa using (List.getElem?_eq_some_iff.1 hi).2
  rw [e] at this
  unfold nmB letB at this
  unfold sp
  simp at this ⊢
  omega

/-- A number's digits, and the number. -/
def valL (l : List UInt8) : Nat := l.foldl (fun n c => 10 * n + (c.toNat - 48)) 0
def preD (l : List UInt8) : Bool := !l.isEmpty && decide (l.length ≤ 16) && !(decide (1 < l.length) && decide (l.headD 0 = 48))
def okD (l : List UInt8) : Bool := preD l && l.all Id.dig && decide (valL l ≤ 9007199254740992)
theorem okD_no {l : List UInt8} (h : okD l = true) {c : UInt8} (hc : c ∈ l) : sp c = false := by
  unfold okD at h
  simp only [Bool.and_eq_true, List.all_eq_true] at h
  have := h.1.2 c hc
  unfold Id.dig at this
  unfold sp
  simp at this ⊢
  omega
theorem okD_nil : okD [] = false := rfl

abbrev Part : Type := Nat × List UInt8 × Nat
def partL (f : Nat) (nm r : List UInt8) : Part := if okD r = true ∧ nL nm = true then (f, nm, valL r) else (0, [], 0)
theorem part_no {f : Nat} {nm r : List UInt8} (h : okD r = false ∨ nL nm = false) : partL f nm r = (0, [], 0) := by
  unfold partL
  rw [if_neg]
  rintro ⟨h1, h2⟩
  rcases h with h | h
  · rw [h] at h1; cases h1
  · rw [h] at h2; cases h2
/-- A comparison, as the program reads it: the first of the signs that occurs. -/
def compL (s : List UInt8) : Part :=
  if (Lib.cut s [62, 61]).2.2 = true then partL 3 (Lib.cut s [62, 61]).1 (Lib.cut s [62, 61]).2.1
  else if (Lib.cut s [60, 61]).2.2 = true then partL 4 (Lib.cut s [60, 61]).1 (Lib.cut s [60, 61]).2.1
  else if (Lib.cut s [61]).2.2 = true then partL 5 (Lib.cut s [61]).1 (Lib.cut s [61]).2.1
  else (0, [], 0)
def parseL (s : List UInt8) : Part :=
  if nL s = true then (1, s, 0) else if Lib.hasPrefix s [33] = true ∧ nL (Lib.trimPrefix s [33]) = true then (2, Lib.trimPrefix s [33], 0) else compL s
/-- What stands ahead of the first sign, and from there on. -/
def hdL (s : List UInt8) : List UInt8 := s.takeWhile fun c => !sp c
def tlL (s : List UInt8) : List UInt8 := s.dropWhile fun c => !sp c
/-- The same, as the reference reads it. -/
def restL (nm rest : List UInt8) : Part :=
  if rest = [] ∧ nL nm = true then (1, nm, 0) else if 2 < rest.length ∧ rest.take 2 = [62, 61] then partL 3 nm (rest.drop 2) else if 2 < rest.length ∧ rest.take 2 = [60, 61] then partL 4 nm (rest.drop 2) else if 1 < rest.length ∧ rest.headD 0 = 61 then partL 5 nm (rest.drop 1) else (0, [], 0)
def readL (s : List UInt8) : Part := if s.headD 0 = 33 then (if nL (s.drop 1) = true then (2, s.drop 1, 0) else (0, [], 0)) else restL (hdL s) (tlL s)

theorem hd_tl (s : List UInt8) : s = hdL s ++ tlL s := (List.takeWhile_append_dropWhile).symm
theorem hd_no {s : List UInt8} {c : UInt8} (h : c ∈ hdL s) : sp c = false := by
  have := List.all_eq_true.1 (List.all_takeWhile (p := fun c => !sp c) (l := s)) c h
  simpa using this
theorem tl_sp {s : List UInt8} {c : UInt8} {r : List UInt8} (h : tlL s = c :: r) : sp c = true := by
  have := List.head?_dropWhile_not (fun c => !sp c) s
  unfold tlL at h
  rw [h] at this
  simpa using this
theorem split_at {s a b : List UInt8} {c : UInt8} (h : s = a ++ c :: b) (ha : ∀ x ∈ a, sp x = false) (hc : sp c = true) : hdL s = a ∧ tlL s = c :: b := by
  subst h
  unfold hdL tlL
  refine ⟨?_, ?_⟩
  · rw [List.takeWhile_append_of_pos (fun x hx => by rw [ha x hx]; rfl), List.takeWhile_cons_of_neg (by rw [hc]; decide), List.append_nil]
  · rw [List.dropWhile_append_of_pos (fun x hx => by rw [ha x hx]; rfl), List.dropWhile_cons_of_neg (by rw [hc]; decide)]

theorem cut_cases (s : List UInt8) (c : UInt8) (t : List UInt8) :
    (Lib.cut s (c :: t) = (s, [], false) ∧ ∀ a b, s ≠ a ++ (c :: t) ++ b) ∨ (∃ a b, Lib.cut s (c :: t) = (a, b, true) ∧ s = a ++ (c :: t) ++ b ∧ ∀ a' b', s = a' ++ (c :: t) ++ b' → a.length ≤ a'.length) := by
  have occ : ∀ a b, s = a ++ (c :: t) ++ b → Lib.occAt s (c :: t) a.length = true := fun a b h => by
    unfold Lib.occAt
    rw [h, List.append_assoc, List.drop_left]
    rw [List.isPrefixOf_iff_prefix]
    exact ⟨b, rfl⟩
  rcases Lib.index_spec s (c :: t) with ⟨h1, h2⟩ | ⟨i, h1, h2, h3, h4⟩
  · refine Or.inl ⟨?_, fun a b h => ?_⟩
    · unfold Lib.cut; rw [h1]; rfl
    · have := h2 a.length (by rw [h]; simp)
      rw [occ a b h] at this; cases this
  · unfold Lib.occAt at h3
    rw [List.isPrefixOf_iff_prefix] at h3
    obtain ⟨b, hb⟩ := h3
    refine Or.inr ⟨s.take i, b, ?_, ?_, fun a' b' h => ?_⟩
    · unfold Lib.cut
      rw [h1, if_pos (by omega), Int.toNat_natCast, ← List.drop_drop, ← hb, List.drop_left]
    · rw [List.append_assoc, hb, List.take_append_drop]
    · rw [List.length_take]
      have h5 := occ a' b' h
      rcases Nat.lt_or_ge a'.length i with hlt | hge
      · have := h4 a'.length hlt
        rw [h5] at this; cases this
      · omega

theorem sp62 : sp 62 = true := rfl
theorem sp60 : sp 60 = true := rfl
theorem sp61 : sp 61 = true := rfl
/-- Whatever was cut at a sign either is no comparison, or was cut at the first sign. -/
theorem cut_first {s a b t : List UInt8} {c : UInt8} (hc : sp c = true) (h : s = a ++ (c :: t) ++ b) (hn : nL a = true) : hdL s = a ∧ tlL s = c :: (t ++ b) :=
  split_at (by rw [h]; simp) (fun x hx => (nL_no hn hx).1) hc
/-- A sign stands at or behind the first one. -/
theorem cut_behind {s a b t : List UInt8} {c : UInt8} (hc : sp c = true) (h : s = a ++ (c :: t) ++ b) : (hdL s).length ≤ a.length := by
  rcases Nat.lt_or_ge a.length (hdL s).length with hlt | hge
  · exfalso
    have h1 : s[a.length]? = some c := by rw [h, List.append_assoc]; simp
    rw [hd_tl s, List.getElem?_append_left hlt] at h1
    have := hd_no (List.mem_of_getElem? h1)
    rw [hc] at this; cases this
  · exact hge
/-- A sign that stands further on is among what is read as a number. -/
theorem sign_in {s a b t nm r : List UInt8} {c : UInt8} {k : Nat} (hs : s = nm ++ r) (h : s = a ++ (c :: t) ++ b) (hk : nm.length + k ≤ a.length) : c ∈ r.drop k := by
  have h1 : s[a.length]? = some c := by rw [h, List.append_assoc]; simp
  rw [hs, List.getElem?_append_right (by omega)] at h1
  have h2 : (r.drop k)[a.length - nm.length - k]? = some c := by
    rw [List.getElem?_drop]
    rw [show k + (a.length - nm.length - k) = a.length - nm.length by omega]
    exact h1
  exact List.mem_of_getElem? h2
theorem okD_sign {r : List UInt8} {c : UInt8} (hc : sp c = true) (h : c ∈ r) : okD r = false := by
  rw [← Bool.not_eq_true]
  intro h2
  have := okD_no h2 h
  rw [hc] at this; cases this

theorem partL_first {s a b : List UInt8} (f : Nat) {c : UInt8} {t : List UInt8} (hc : sp c = true) (h : s = a ++ (c :: t) ++ b) (hn : nL a = true) : partL f a b = partL f (hdL s) ((tlL s).drop (t.length + 1)) := by
  obtain ⟨h1, h2⟩ := cut_first hc h hn
  rw [h1, h2]
  simp
theorem tl_nil_or (s : List UInt8) : tlL s = [] ∨ ∃ c r, tlL s = c :: r ∧ sp c = true := by
  rcases h : tlL s with _ | ⟨c, r⟩
  · exact Or.inl rfl
  · exact Or.inr ⟨c, r, rfl, tl_sp h⟩
theorem take2 {l : List UInt8} {a b : UInt8} (h : l.take 2 = [a, b]) : ∃ r, l = a :: b :: r := by
  rcases l with _ | ⟨x, _ | ⟨y, r⟩⟩
  · simp at h
  · simp at h
  · simp at h
    exact ⟨r, by rw [h.1, h.2]⟩
theorem head1 {l : List UInt8} {a : UInt8} (h0 : 1 < l.length) (h : l.headD 0 = a) : ∃ r, l = a :: r := by
  rcases l with _ | ⟨x, r⟩
  · simp at h0
  · exact ⟨r, by simp at h; rw [h]⟩
/-- Where a sign stands that is not the first one's place, or whose head is no name: the reference reads none. -/
theorem rest_no {s a b t : List UInt8} {c : UInt8} (hc : sp c = true) (h : s = a ++ (c :: t) ++ b) (hbad : nL a = false) (h62 : c = 62 ∨ (c = 60 ∧ ∀ a b, s ≠ a ++ [62, 61] ++ b) ∨ (c = 61 ∧ (∀ a b, s ≠ a ++ [62, 61] ++ b) ∧ (∀ a b, s ≠ a ++ [60, 61] ++ b))) (ht : c = 61 ∨ t = [61]) : restL (hdL s) (tlL s) = (0, [], 0) := by
  have hs := hd_tl s
  have hbeh := cut_behind hc h
  have hat : a.length ≠ (hdL s).length ∨ nL (hdL s) = false := by
    by_cases e : a.length = (hdL s).length
    · right
      have h2 : hdL s = a := by
        have h3 : hdL s ++ tlL s = a ++ ((c :: t) ++ b) := by rw [← hs, ← List.append_assoc]; exact h
        exact (List.append_inj h3 e.symm).1
      rw [h2]; exact hbad
    · exact Or.inl e
  have hne : tlL s ≠ [] := by
    intro e
    have : c ∈ s := by rw [h]; simp
    rw [hs, e, List.append_nil] at this
    have := hd_no this
    rw [hc] at this; cases this
  unfold restL
  rw [if_neg (fun e => hne e.1)]
  split
  · rename_i h1
    obtain ⟨r, hr⟩ := take2 h1.2
    refine part_no ?_
    rcases hat with hat | hat
    · left
      refine okD_sign hc ?_
      have h2 := sign_in (k := 1) hs h (by omega)
      rw [hr] at h2 ⊢
      simp at h2 ⊢
      rcases h2 with h2 | h2
      · exfalso
        subst h2
        rcases h62 with e | ⟨e, _⟩ | ⟨_, h3, _⟩
        · cases e
        · cases e
        · exact h3 (hdL s) r (by rw [List.append_assoc]; exact hs.trans (by rw [hr]; rfl))
      · exact h2
    · exact Or.inr hat
  · split
    · rename_i h1
      obtain ⟨r, hr⟩ := take2 h1.2
      refine part_no ?_
      rcases hat with hat | hat
      · left
        refine okD_sign hc ?_
        have h2 := sign_in (k := 1) hs h (by omega)
        rw [hr] at h2 ⊢
        simp at h2 ⊢
        rcases h2 with h2 | h2
        · exfalso
          subst h2
          rcases h62 with e | ⟨e, _⟩ | ⟨_, _, h3⟩
          · cases e
          · cases e
          · exact h3 (hdL s) r (by rw [List.append_assoc]; exact hs.trans (by rw [hr]; rfl))
        · exact h2
      · exact Or.inr hat
    · split
      · rename_i h1
        obtain ⟨r, hr⟩ := head1 h1.1 h1.2
        refine part_no ?_
        rcases hat with hat | hat
        · left
          refine okD_sign hc ?_
          have h2 := sign_in (k := 1) hs h (by omega)
          exact h2
        · exact Or.inr hat
      · rfl
/-- At the first sign both read alike. -/
theorem rest_at {s r : List UInt8} : (tlL s = 62 :: 61 :: r → restL (hdL s) (tlL s) = partL 3 (hdL s) r) ∧ (tlL s = 60 :: 61 :: r → restL (hdL s) (tlL s) = partL 4 (hdL s) r) ∧ (tlL s = 61 :: r → restL (hdL s) (tlL s) = partL 5 (hdL s) r) := by
  refine ⟨fun h => ?_, fun h => ?_, fun h => ?_⟩
  · unfold restL
    rw [h, if_neg (by simp)]
    by_cases h1 : r = []
    · subst h1
      rw [if_neg (by simp), if_neg (by simp), if_neg (by simp), part_no (Or.inl okD_nil)]
    · have : 0 < r.length := List.length_pos_iff.2 h1
      rw [if_pos (by simp; omega)]; rfl
  · unfold restL
    rw [h, if_neg (by simp), if_neg (by simp)]
    by_cases h1 : r = []
    · subst h1
      rw [if_neg (by simp), if_neg (by simp), part_no (Or.inl okD_nil)]
    · have : 0 < r.length := List.length_pos_iff.2 h1
      rw [if_pos (by simp; omega)]; rfl
  · unfold restL
    rw [h, if_neg (by simp), if_neg (by simp), if_neg (by simp)]
    by_cases h1 : r = []
    · subst h1
      rw [if_neg (by simp), part_no (Or.inl okD_nil)]
    · have : 0 < r.length := List.length_pos_iff.2 h1
      rw [if_pos (by simp; omega)]; rfl
/-- Without a sign there is no comparison. -/
theorem rest_none {s : List UInt8} (hn : nL s = false) (h1 : ∀ a b, s ≠ a ++ [62, 61] ++ b) (h2 : ∀ a b, s ≠ a ++ [60, 61] ++ b) (h3 : ∀ a b, s ≠ a ++ [61] ++ b) : restL (hdL s) (tlL s) = (0, [], 0) := by
  have hs := hd_tl s
  unfold restL
  rw [if_neg (fun e => by
    have : s = hdL s := by rw [e.1, List.append_nil] at hs; exact hs
    rw [this, e.2] at hn; cases hn)]
  rw [if_neg (fun e => by obtain ⟨r, hr⟩ := take2 e.2; exact h1 (hdL s) r (by rw [hr] at hs; rw [List.append_assoc]; exact hs))]
  rw [if_neg (fun e => by obtain ⟨r, hr⟩ := take2 e.2; exact h2 (hdL s) r (by rw [hr] at hs; rw [List.append_assoc]; exact hs))]
  rw [if_neg (fun e => by obtain ⟨r, hr⟩ := head1 e.1 e.2; exact h3 (hdL s) r (by rw [hr] at hs; rw [List.append_assoc]; exact hs))]
theorem comp_eq {s : List UInt8} (hn : nL s = false) : compL s = restL (hdL s) (tlL s) := by
  unfold compL
  rcases cut_cases s 62 [61] with ⟨e1, n1⟩ | ⟨a, b, e1, h1, _⟩
  · rw [e1, if_neg (by simp)]
    rcases cut_cases s 60 [61] with ⟨e2, n2⟩ | ⟨a, b, e2, h2, _⟩
    · rw [e2, if_neg (by simp)]
      rcases cut_cases s 61 [] with ⟨e3, n3⟩ | ⟨a, b, e3, h3, _⟩
      · rw [e3, if_neg (by simp), rest_none hn n1 n2 n3]
      · rw [e3, if_pos rfl]
        rcases hb : nL a with _ | _
        · rw [part_no (Or.inr hb), rest_no sp61 h3 hb (Or.inr (Or.inr ⟨rfl, n1, n2⟩)) (Or.inl rfl)]
        · obtain ⟨q1, q2⟩ := cut_first sp61 h3 hb
          rw [(rest_at (r := b)).2.2 (by rw [q2]; rfl), q1]
    · rw [e2, if_pos rfl]
      rcases hb : nL a with _ | _
      · rw [part_no (Or.inr hb), rest_no sp60 h2 hb (Or.inr (Or.inl ⟨rfl, n1⟩)) (Or.inr rfl)]
      · obtain ⟨q1, q2⟩ := cut_first sp60 h2 hb
        rw [(rest_at (r := b)).2.1 (by rw [q2]; rfl), q1]
  · rw [e1, if_pos rfl]
    rcases hb : nL a with _ | _
    · rw [part_no (Or.inr hb), rest_no sp62 h1 hb (Or.inl rfl) (Or.inr rfl)]
    · obtain ⟨q1, q2⟩ := cut_first sp62 h1 hb
      rw [(rest_at (r := b)).1 (by rw [q2]; rfl), q1]
/-- Behind an exclamation mark no comparison is read. -/
theorem comp_bang {r : List UInt8} : compL (33 :: r) = (0, [], 0) := by
  have hbad : ∀ a b (c : UInt8) t, (33 : UInt8) :: r = a ++ (c :: t) ++ b → sp c = true → nL a = false := fun a b c t h hc => by
    rw [← Bool.not_eq_true]
    intro hn
    rcases a with _ | ⟨x, a⟩
    · simp at h
      rw [← h.1] at hc; cases hc
    · simp at h
      have := (nL_no hn (c := x) (by simp)).2
      rw [← h.1] at this
      exact this rfl
  unfold compL
  rcases cut_cases (33 :: r) 62 [61] with ⟨e1, _⟩ | ⟨a, b, e1, h1, _⟩
  · rw [e1, if_neg (by simp)]
    rcases cut_cases (33 :: r) 60 [61] with ⟨e2, _⟩ | ⟨a, b, e2, h2, _⟩
    · rw [e2, if_neg (by simp)]
      rcases cut_cases (33 :: r) 61 [] with ⟨e3, _⟩ | ⟨a, b, e3, h3, _⟩
      · rw [e3, if_neg (by simp)]
      · rw [e3, if_pos rfl]; exact part_no (Or.inr (hbad _ _ _ _ h3 rfl))
    · rw [e2, if_pos rfl]; exact part_no (Or.inr (hbad _ _ _ _ h2 rfl))
  · rw [e1, if_pos rfl]; exact part_no (Or.inr (hbad _ _ _ _ h1 rfl))
/-- The program and the reference read a requirement alike. -/
theorem parse_eq (s : List UInt8) : parseL s = readL s := by
  unfold parseL readL
  rcases s with _ | ⟨c, r⟩
  · have h0 : nL [] = false := by decide +kernel
    rw [h0, if_neg (by decide), if_neg (by rintro ⟨h, _⟩; cases h), if_neg (by decide)]
    exact comp_eq h0
  · by_cases hc : c = 33
    · subst hc
      have h0 : nL (33 :: r) = false := by
        rw [← Bool.not_eq_true]
        intro h
        exact (nL_no h (c := 33) (by simp)).2 rfl
      have h1 : Lib.hasPrefix (33 :: r) [33] = true := by simp [Lib.hasPrefix]
      have h2 : Lib.trimPrefix (33 :: r) [33] = r := by simp [Lib.trimPrefix, Lib.hasPrefix]
      rw [h0, if_neg (by decide), h1, h2, if_pos (show (33 :: r).headD 0 = 33 from rfl)]
      by_cases hn : nL r = true
      · rw [if_pos ⟨rfl, hn⟩, if_pos (show nL ((33 :: r).drop 1) = true from hn)]; rfl
      · rw [if_neg (fun h => hn h.2), if_neg (show ¬ nL ((33 :: r).drop 1) = true from hn)]
        exact comp_bang
    · have h1 : Lib.hasPrefix (c :: r) [33] = false := by
        simp only [Lib.hasPrefix, List.isPrefixOf, Bool.and_true, beq_eq_false_iff_ne]
        exact fun h => hc h.symm
      rw [h1, if_neg (show ¬ ((c :: r).headD 0 = 33) from hc)]
      rcases hn : nL (c :: r) with _ | _
      · rw [if_neg (by decide), if_neg (by rintro ⟨h, _⟩; cases h)]
        exact comp_eq hn
      · rw [if_pos rfl]
        have hno : ∀ x ∈ c :: r, sp x = false := fun x hx => (nL_no hn hx).1
        have e1 : hdL (c :: r) = c :: r := by
          unfold hdL
          have := List.takeWhile_append_of_pos (p := fun c => !sp c) (l₁ := c :: r) (l₂ := []) (fun x hx => by rw [hno x hx]; rfl)
          simpa using this
        have e2 : tlL (c :: r) = [] := by
          have := hd_tl (c :: r)
          rw [e1] at this
          simpa using this
        rw [e1, e2]
        unfold restL
        rw [if_pos ⟨rfl, hn⟩]
end Go.Proofs.YtnahbfmbmpoljaaDoor

namespace Go.Proofs.YtnahbfmbmpoljaaDoor
open Go.RowKit

theorem val_snoc (l : List UInt8) (c : UInt8) : valL (l ++ [c]) = 10 * valL l + (c.toNat - 48) := by
  unfold valL; rw [List.foldl_append]; rfl
theorem val_lt : ∀ (n : Nat) (l : List UInt8), l.length = n → l.all Id.dig = true → valL l < 10 ^ n
  | 0, l, h, _ => by
    obtain rfl : l = [] := List.eq_nil_of_length_eq_zero h
    decide
  | n + 1, l, h, hd => by
    have hne : l ≠ [] := by intro e; subst e; simp at h
    obtain ⟨l', c, rfl⟩ : ∃ l' c, l = l' ++ [c] := ⟨l.dropLast, l.getLast hne, (List.dropLast_concat_getLast hne).symm⟩
    rw [List.all_append, Bool.and_eq_true] at hd
    have h1 := val_lt n l' (by simpa using h) hd.1
    have hc : Id.dig c = true := by simpa using hd.2
    unfold Id.dig at hc
    simp at hc
    rw [val_snoc, Nat.pow_succ]
    omega
/-- The number that is returned. -/
def numL (l : List UInt8) : Nat := if preD l = true ∧ l.all Id.dig = true then valL l else 0
theorem preD_small {l : List UInt8} (h : preD l = true) : 0 < l.length ∧ l.length ≤ 16 := by
  unfold preD at h
  simp only [Bool.and_eq_true, decide_eq_true_eq, Bool.not_eq_true'] at h
  refine ⟨?_, h.1.2⟩
  rcases l with _ | ⟨c, l⟩
  · simp at h
  · simp
theorem num_bad {l : List UInt8} (h : preD l = false ∨ l.all Id.dig = false) : numL l = 0 ∧ okD l = false := by
  unfold numL okD
  rcases h with h | h <;> rw [h] <;> simp

set_option maxRecDepth 100000 in
set_option maxHeartbeats 4000000 in
theorem number_any (s : ByteArray) (w : World) (hs : s.size ≤ 9223372036854775807) : Calls Tryd.prog 100 #[.string s] w fun e w' => e = .returned (.tuple #[.int .i64 (numL s.toList), .bool (okD s.toList)]) ∧ Bel w.heap.size w w' := by
  have hlen := toList_len s
  rcases hp : preD s.toList with _ | _
  · obtain ⟨e1, e2⟩ := num_bad (Or.inl hp)
    rw [e1, e2]
    by_cases h0 : s.size = 0
    · have hem : s.toList.isEmpty = true := (empty_iff s).2 h0
      replace hp := Lib.hid hp
      replace hlen := Lib.hid hlen
      replace h0 := Lib.hid h0
      go_enter Tryd.func100, Tryd.ntmps100
      go_wp2_with fail
      exact bodyPost_ret (v := .tuple #[.int .i64 0, .bool false]) (by simp [results, Tryd.results100, go_sem]) rfl ⟨rfl, Bel.refl _ _⟩
    have hem : s.toList.isEmpty = false := by rw [← Bool.not_eq_true, empty_iff]; exact h0
    by_cases h16 : s.size > 16
    · have h16z : (s.size : Int) > 16 := by omega
      replace hp := Lib.hid hp
      replace hlen := Lib.hid hlen
      go_enter Tryd.func100, Tryd.ntmps100
      go_wp2_with fail
      exact bodyPost_ret (v := .tuple #[.int .i64 0, .bool false]) (by simp [results, Tryd.results100, go_sem]) rfl ⟨rfl, Bel.refl _ _⟩
    have h16z : ¬ (s.size : Int) > 16 := by omega
    have hz := (head_get s (by omega)).2
    have hh : 1 < s.size ∧ s[0] = 48 := by
      unfold preD at hp
      rw [hem, hlen, decide_eq_true (by omega), hz] at hp
      simpa using hp
    have h1z : (s.size : Int) > 1 := by omega
    have h48 : (s[0].toNat : Int) = 48 := by rw [hh.2]; rfl
    have i1 : (0 : Int) < (s.size : Int) := by omega
    replace hh := Lib.hid hh
    replace hp := Lib.hid hp
    replace hlen := Lib.hid hlen
    replace hz := Lib.hid hz
    go_enter Tryd.func100, Tryd.ntmps100
    go_wp2_with fail
    exact bodyPost_ret (v := .tuple #[.int .i64 0, .bool false]) (by simp [results, Tryd.results100, go_sem]) rfl ⟨rfl, Bel.refl _ _⟩
  · obtain ⟨p0, p16⟩ := preD_small hp
    rw [hlen] at p0 p16
    have hem : s.toList.isEmpty = false := by rw [← Bool.not_eq_true, empty_iff]; omega
    have hz := (head_get s (by omega)).2
    have h16z : ¬ (s.size : Int) > 16 := by omega
    have hh : Hid (1 < s.size → ¬ s[0] = 48) := Lib.hid fun h1 e => by
      unfold preD at hp
      rw [hem, hlen, decide_eq_true (by omega), hz, e, decide_eq_true h1] at hp
      simp at hp
    have hcv := run_bytes_of_string (P := Tryd.prog) w 9 76 5 s Tryd.underlying9 Tryd.underlying76 Tryd.underlying5
    have hcl : ∀ (C : Nat) (F : Nat × Nat) (k : Nat) (h : k < s.size), (w.alloc (.cells (bytesRow s C) 5 F)).cell? ⟨w.heap.size, k, none⟩ = some (.int .u8 (s[k].toNat : Int)) := fun C F k h => by
      rw [cell_of_row _ _ _ (bytesRow s C) 5 F (heap_alloc_new w _), bytesRow_at s C k h]
      rfl
    have hbl : ∀ (C : Nat) (F : Nat × Nat), Bel w.heap.size w (w.alloc (.cells (bytesRow s C) 5 F)) := fun C F => (Bel.refl _ _).alloc (Nat.le_refl _) _
    replace hlen := Lib.hid hlen
    replace hz := Lib.hid hz
    replace hp := Lib.hid hp
    replace hcl := Lib.hid hcl
    by_cases h1 : 1 < s.size
    · have h1z : (s.size : Int) > 1 := by omega
      have h48 : ¬ (s[0].toNat : Int) = 48 := by
        have := hh.out h1
        intro e
        exact this (by rw [← UInt8.toNat_inj]; show s[0].toNat = 48; omega)
      have i1 : (0 : Int) < (s.size : Int) := by omega
      go_enter Tryd.func100, Tryd.ntmps100
      go_wp2_with fail
      go_loop [4, 27] (fun vn vi => ∃ k : Nat, k ≤ s.size ∧ vn = .int .i64 (valL (s.toList.take k) : Int) ∧ vi = .int .i64 (k : Int) ∧ (s.toList.take k).all Id.dig = true) (fun _ vi => s.size - (intOf vi).toNat)
      case atStart => exact ⟨0, Nat.zero_le _, rfl, rfl, rfl⟩
      case round =>
        obtain ⟨k, hk, rfl, rfl, ht⟩ := hrel
        have hv := val_lt k (s.toList.take k) (by rw [List.length_take, hlen.out]; omega) ht
        have hv2 : 10 ^ k ≤ 10 ^ 16 := Nat.pow_le_pow_right (by omega) (by omega)
        have hv3 : valL (s.toList.take k) < 10000000000000000 := by omega
        clear hv hv2
        by_cases hks : k < s.size
        · have i0 : (0 : Int) ≤ (k : Int) := by omega
          have i1 : (k : Int) < (s.size : Int) := by omega
          have q := fun C F => hcl.out C F k hks
          have hget := toList_get s k hks
          have hsn : Hid (s.toList.take (k + 1) = s.toList.take k ++ [s[k]]) := Lib.hid (by rw [List.take_add_one, hget]; rfl)
          obtain ⟨n, hn⟩ : ∃ n, valL (s.toList.take k) = n := ⟨_, rfl⟩
          rw [hn] at hv3 ⊢
          replace ht := Lib.hid ht
          replace hget := Lib.hid hget
          obtain ⟨c, hc⟩ : ∃ c, s[k].toNat = c := ⟨_, rfl⟩
          have hc8 : c < 256 := by rw [← hc]; exact UInt8.toNat_lt _
          simp only [hc] at q
          by_cases hd : 48 ≤ c ∧ c ≤ 57
          · have d1 : ¬ (c : Int) < 48 := by omega
            have d2 : ¬ (c : Int) > 57 := by omega
            have hw1 : IntKind.u8.wrap ((c : Int) - 48) = ((c - 48 : Nat) : Int) := by
              rw [show (c : Int) - 48 = ((c - 48 : Nat) : Int) by omega]
              simp [IntKind.wrap, IntKind.bits, IntKind.signed]; omega
            obtain ⟨m, hm⟩ : ∃ m, c - 48 = m := ⟨_, rfl⟩
            rw [hm] at hw1
            have hm9 : m ≤ 9 := by omega
            have hw2 : IntKind.i64.wrap (10 * (n : Int)) = 10 * (n : Int) := IntWalk.i64_in _ (by omega)
            have hw3 : IntKind.i64.wrap (10 * (n : Int) + (m : Int)) = 10 * (n : Int) + (m : Int) := IntWalk.i64_in _ (by omega)
            have hw4 : IntKind.i64.wrap (m : Int) = (m : Int) := IntWalk.i64_in _ (by omega)
            have hdg : Hid (Id.dig s[k] = true) := Lib.hid (by unfold Id.dig; rw [hc]; simp; omega)
            have hnx : Hid (valL (s.toList.take (k + 1)) = 10 * n + m) := Lib.hid (by rw [hsn.out, val_snoc, hn, hc, hm])
            replace hn := Lib.hid hn
            replace hc := Lib.hid hc
            replace hm := Lib.hid hm
            go_wp2_with fail
            go_round
            case rel => exact ⟨k + 1, by omega, by rw [hnx.out]; go_num, by go_num, by rw [hsn.out, List.all_append, ht.out]; simp [hdg.out]⟩
            case measure => simp [intOf]; omega
          · have hbad : Hid (s.toList.all Id.dig = false) := Lib.hid (by
              rw [List.all_eq_false]
              exact ⟨s[k], List.mem_of_getElem? hget.out, by unfold Id.dig; rw [hc]; simp; omega⟩)
            obtain ⟨e1, e2⟩ := num_bad (Or.inr hbad.out)
            replace e1 := Lib.hid e1
            replace e2 := Lib.hid e2
            replace hn := Lib.hid hn
            replace hc := Lib.hid hc
            by_cases hd1 : c < 48
            · have d1 : (c : Int) < 48 := by omega
              go_wp2_with fail
              exact bodyPost_ret (v := .tuple #[.int .i64 0, .bool false]) (by simp [results, Tryd.results100, go_sem]) rfl ⟨by rw [e1.out, e2.out]; rfl, (by repeat (first | (with_reducible exact Bel.refl _ _) | (with_reducible refine Bel.drew ?_) | (with_reducible refine Bel.drewN ?_ _) | ((with_reducible refine Bel.alloc ?_ ?_ _); rotate_left; focus ((try simp) <;> omega)) | ((with_reducible refine Bel.setCell ?_ ?_ _); rotate_left; focus ((try simp) <;> omega)) | ((with_reducible refine Bel.trans ?_ (Bel.mono (by assumption) ?_)); rotate_left; focus ((try simp) <;> omega))))⟩
            · have d1 : ¬ (c : Int) < 48 := by omega
              have d2 : (c : Int) > 57 := by omega
              go_wp2_with fail
              exact bodyPost_ret (v := .tuple #[.int .i64 0, .bool false]) (by simp [results, Tryd.results100, go_sem]) rfl ⟨by rw [e1.out, e2.out]; rfl, (by repeat (first | (with_reducible exact Bel.refl _ _) | (with_reducible refine Bel.drew ?_) | (with_reducible refine Bel.drewN ?_ _) | ((with_reducible refine Bel.alloc ?_ ?_ _); rotate_left; focus ((try simp) <;> omega)) | ((with_reducible refine Bel.setCell ?_ ?_ _); rotate_left; focus ((try simp) <;> omega)) | ((with_reducible refine Bel.trans ?_ (Bel.mono (by assumption) ?_)); rotate_left; focus ((try simp) <;> omega))))⟩
        · have i1 : ¬ (k : Int) < (s.size : Int) := by omega
          have htk : s.toList.take k = s.toList := List.take_of_length_le (by rw [hlen.out]; omega)
          rw [htk] at ht hv3
          rw [htk]
          have e1 : numL s.toList = valL s.toList := by unfold numL; rw [if_pos ⟨hp.out, ht⟩]
          have e2 : okD s.toList = decide (valL s.toList ≤ 9007199254740992) := by unfold okD; rw [hp.out, ht]; rfl
          generalize valL s.toList = n at hv3 e1 e2 ⊢
          replace e1 := Lib.hid e1
          replace e2 := Lib.hid e2
          replace ht := Lib.hid ht
          replace htk := Lib.hid htk
          go_wp2_with fail
          exact bodyPost_ret (v := .tuple #[.int .i64 (n : Int), .bool (decide ((n : Int) ≤ 9007199254740992))]) (by simp [results, Tryd.results100, go_sem]) rfl ⟨by rw [e1.out, e2.out]; congr 4; simp; omega, (by repeat (first | (with_reducible exact Bel.refl _ _) | (with_reducible refine Bel.drew ?_) | (with_reducible refine Bel.drewN ?_ _) | ((with_reducible refine Bel.alloc ?_ ?_ _); rotate_left; focus ((try simp) <;> omega)) | ((with_reducible refine Bel.setCell ?_ ?_ _); rotate_left; focus ((try simp) <;> omega)) | ((with_reducible refine Bel.trans ?_ (Bel.mono (by assumption) ?_)); rotate_left; focus ((try simp) <;> omega))))⟩
    · have h1z : ¬ (s.size : Int) > 1 := by omega
      go_enter Tryd.func100, Tryd.ntmps100
      go_wp2_with fail
      go_loop [4, 27] (fun vn vi => ∃ k : Nat, k ≤ s.size ∧ vn = .int .i64 (valL (s.toList.take k) : Int) ∧ vi = .int .i64 (k : Int) ∧ (s.toList.take k).all Id.dig = true) (fun _ vi => s.size - (intOf vi).toNat)
      case atStart => exact ⟨0, Nat.zero_le _, rfl, rfl, rfl⟩
      case round =>
        obtain ⟨k, hk, rfl, rfl, ht⟩ := hrel
        have hv := val_lt k (s.toList.take k) (by rw [List.length_take, hlen.out]; omega) ht
        have hv2 : 10 ^ k ≤ 10 ^ 16 := Nat.pow_le_pow_right (by omega) (by omega)
        have hv3 : valL (s.toList.take k) < 10000000000000000 := by omega
        clear hv hv2
        by_cases hks : k < s.size
        · have i0 : (0 : Int) ≤ (k : Int) := by omega
          have i1 : (k : Int) < (s.size : Int) := by omega
          have q := fun C F => hcl.out C F k hks
          have hget := toList_get s k hks
          have hsn : Hid (s.toList.take (k + 1) = s.toList.take k ++ [s[k]]) := Lib.hid (by rw [List.take_add_one, hget]; rfl)
          obtain ⟨n, hn⟩ : ∃ n, valL (s.toList.take k) = n := ⟨_, rfl⟩
          rw [hn] at hv3 ⊢
          replace ht := Lib.hid ht
          replace hget := Lib.hid hget
          obtain ⟨c, hc⟩ : ∃ c, s[k].toNat = c := ⟨_, rfl⟩
          have hc8 : c < 256 := by rw [← hc]; exact UInt8.toNat_lt _
          simp only [hc] at q
          by_cases hd : 48 ≤ c ∧ c ≤ 57
          · have d1 : ¬ (c : Int) < 48 := by omega
            have d2 : ¬ (c : Int) > 57 := by omega
            have hw1 : IntKind.u8.wrap ((c : Int) - 48) = ((c - 48 : Nat) : Int) := by
              rw [show (c : Int) - 48 = ((c - 48 : Nat) : Int) by omega]
              simp [IntKind.wrap, IntKind.bits, IntKind.signed]; omega
            obtain ⟨m, hm⟩ : ∃ m, c - 48 = m := ⟨_, rfl⟩
            rw [hm] at hw1
            have hm9 : m ≤ 9 := by omega
            have hw2 : IntKind.i64.wrap (10 * (n : Int)) = 10 * (n : Int) := IntWalk.i64_in _ (by omega)
            have hw3 : IntKind.i64.wrap (10 * (n : Int) + (m : Int)) = 10 * (n : Int) + (m : Int) := IntWalk.i64_in _ (by omega)
            have hw4 : IntKind.i64.wrap (m : Int) = (m : Int) := IntWalk.i64_in _ (by omega)
            have hdg : Hid (Id.dig s[k] = true) := Lib.hid (by unfold Id.dig; rw [hc]; simp; omega)
            have hnx : Hid (valL (s.toList.take (k + 1)) = 10 * n + m) := Lib.hid (by rw [hsn.out, val_snoc, hn, hc, hm])
            replace hn := Lib.hid hn
            replace hc := Lib.hid hc
            replace hm := Lib.hid hm
            go_wp2_with fail
            go_round
            case rel => exact ⟨k + 1, by omega, by rw [hnx.out]; go_num, by go_num, by rw [hsn.out, List.all_append, ht.out]; simp [hdg.out]⟩
            case measure => simp [intOf]; omega
          · have hbad : Hid (s.toList.all Id.dig = false) := Lib.hid (by
              rw [List.all_eq_false]
              exact ⟨s[k], List.mem_of_getElem? hget.out, by unfold Id.dig; rw [hc]; simp; omega⟩)
            obtain ⟨e1, e2⟩ := num_bad (Or.inr hbad.out)
            replace e1 := Lib.hid e1
            replace e2 := Lib.hid e2
            replace hn := Lib.hid hn
            replace hc := Lib.hid hc
            by_cases hd1 : c < 48
            · have d1 : (c : Int) < 48 := by omega
              go_wp2_with fail
              exact bodyPost_ret (v := .tuple #[.int .i64 0, .bool false]) (by simp [results, Tryd.results100, go_sem]) rfl ⟨by rw [e1.out, e2.out]; rfl, (by repeat (first | (with_reducible exact Bel.refl _ _) | (with_reducible refine Bel.drew ?_) | (with_reducible refine Bel.drewN ?_ _) | ((with_reducible refine Bel.alloc ?_ ?_ _); rotate_left; focus ((try simp) <;> omega)) | ((with_reducible refine Bel.setCell ?_ ?_ _); rotate_left; focus ((try simp) <;> omega)) | ((with_reducible refine Bel.trans ?_ (Bel.mono (by assumption) ?_)); rotate_left; focus ((try simp) <;> omega))))⟩
            · have d1 : ¬ (c : Int) < 48 := by omega
              have d2 : (c : Int) > 57 := by omega
              go_wp2_with fail
              exact bodyPost_ret (v := .tuple #[.int .i64 0, .bool false]) (by simp [results, Tryd.results100, go_sem]) rfl ⟨by rw [e1.out, e2.out]; rfl, (by repeat (first | (with_reducible exact Bel.refl _ _) | (with_reducible refine Bel.drew ?_) | (with_reducible refine Bel.drewN ?_ _) | ((with_reducible refine Bel.alloc ?_ ?_ _); rotate_left; focus ((try simp) <;> omega)) | ((with_reducible refine Bel.setCell ?_ ?_ _); rotate_left; focus ((try simp) <;> omega)) | ((with_reducible refine Bel.trans ?_ (Bel.mono (by assumption) ?_)); rotate_left; focus ((try simp) <;> omega))))⟩
        · have i1 : ¬ (k : Int) < (s.size : Int) := by omega
          have htk : s.toList.take k = s.toList := List.take_of_length_le (by rw [hlen.out]; omega)
          rw [htk] at ht hv3
          rw [htk]
          have e1 : numL s.toList = valL s.toList := by unfold numL; rw [if_pos ⟨hp.out, ht⟩]
          have e2 : okD s.toList = decide (valL s.toList ≤ 9007199254740992) := by unfold okD; rw [hp.out, ht]; rfl
          generalize valL s.toList = n at hv3 e1 e2 ⊢
          replace e1 := Lib.hid e1
          replace e2 := Lib.hid e2
          replace ht := Lib.hid ht
          replace htk := Lib.hid htk
          go_wp2_with fail
          exact bodyPost_ret (v := .tuple #[.int .i64 (n : Int), .bool (decide ((n : Int) ≤ 9007199254740992))]) (by simp [results, Tryd.results100, go_sem]) rfl ⟨by rw [e1.out, e2.out]; congr 4; simp; omega, (by repeat (first | (with_reducible exact Bel.refl _ _) | (with_reducible refine Bel.drew ?_) | (with_reducible refine Bel.drewN ?_ _) | ((with_reducible refine Bel.alloc ?_ ?_ _); rotate_left; focus ((try simp) <;> omega)) | ((with_reducible refine Bel.setCell ?_ ?_ _); rotate_left; focus ((try simp) <;> omega)) | ((with_reducible refine Bel.trans ?_ (Bel.mono (by assumption) ?_)); rotate_left; focus ((try simp) <;> omega))))⟩
end Go.Proofs.YtnahbfmbmpoljaaDoor
