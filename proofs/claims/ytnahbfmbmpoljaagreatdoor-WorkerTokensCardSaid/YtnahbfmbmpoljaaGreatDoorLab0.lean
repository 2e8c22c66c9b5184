/-
  Plain laws of labels and requirements: how the program and the reference read one, and that they read alike.
-/
import Derived.Test.YtnahbfmbmpoljaaGreatDoorIdentn
import Derived.Lib.IndexMore
namespace Go.Proofs.YtnahbfmbmpoljaaGreatDoor

/-- A string's bytes are a name. -/
def nL (l : List UInt8) : Bool := nameB ⟨l.toArray⟩
theorem nL_str (s : ByteArray) : nL s.toList = nameB s := by
  unfold nL
  rw [Lib.toList_data]
/-- The bytes that part a requirement. -/
def sp (c : UInt8) : Bool := decide (c.toNat = 60) || decide (c.toNat = 61) || decide (c.toNat = 62)
theorem nL_no {l : List UInt8} (h : nL l = true) {c : UInt8} (hc : c ∈ l) : sp c = false ∧ c.toNat ≠ 33 := by
  unfold nL nameB at h
  rw [Bool.and_eq_true, List.all_eq_true] at h
  obtain ⟨i, hi⟩ := List.getElem?_of_mem hc
  have hil := (List.getElem?_eq_some_iff.1 hi).1
  have := h.2 i (List.mem_range.2 (by simpa [ByteArray.size] using hil))
  have e : (⟨l.toArray⟩ : ByteArray)[i]! = c := by
    rw [getElem!_pos (⟨l.toArray⟩ : ByteArray) i (by simpa [ByteArray.size] using hil)]
    show l.toArray[i] = c
    simpa using (List.getElem?_eq_some_iff.1 hi).2
  rw [e] at this
  unfold nmB letB at this
  unfold sp
  simp at this ⊢
  omega

/-- A number's digits, and the number. -/
def valL (l : List UInt8) : Nat := l.foldl (fun n c => 10 * n + (c.toNat - 48)) 0
def preD (l : List UInt8) : Bool := !l.isEmpty && decide (l.length ≤ 16) && !(decide (1 < l.length) && decide (l.headD 0 = 48))
def okD (l : List UInt8) : Bool := preD l && l.all Id.dig && decide (valL l ≤ 9007199254740992)
theorem okD_no {l : List UInt8} (h : okD l = true) {c : UInt8} (hc : c ∈ l) : sp c = false := by
  unfold okD at h
  simp only [Bool.and_eq_true, List.all_eq_true] at h
  have := h.1.2 c hc
  unfold Id.dig at this
  unfold sp
  simp at this ⊢
  omega
theorem okD_nil : okD [] = false := rfl

abbrev Part : Type := Nat × List UInt8 × Nat
def partL (f : Nat) (nm r : List UInt8) : Part := if okD r = true ∧ nL nm = true then (f, nm, valL r) else (0, [], 0)
theorem part_no {f : Nat} {nm r : List UInt8} (h : okD r = false ∨ nL nm = false) : partL f nm r = (0, [], 0) := by
  unfold partL
  rw [if_neg]
  rintro ⟨h1, h2⟩
  rcases h with h | h
  · rw [h] at h1; cases h1
  · rw [h] at h2; cases h2
/-- A comparison, as the program reads it: the first of the signs that occurs. -/
def compL (s : List UInt8) : Part :=
  if (Lib.cut s [62, 61]).2.2 = true then partL 3 (Lib.cut s [62, 61]).1 (Lib.cut s [62, 61]).2.1
  else if (Lib.cut s [60, 61]).2.2 = true then partL 4 (Lib.cut s [60, 61]).1 (Lib.cut s [60, 61]).2.1
  else if (Lib.cut s [61]).2.2 = true then partL 5 (Lib.cut s [61]).1 (Lib.cut s [61]).2.1
  else (0, [], 0)
def parseL (s : List UInt8) : Part :=
  if nL s = true then (1, s, 0) else if Lib.hasPrefix s [33] = true ∧ nL (Lib.trimPrefix s [33]) = true then (2, Lib.trimPrefix s [33], 0) else compL s
/-- What stands ahead of the first sign, and from there on. -/
def hdL (s : List UInt8) : List UInt8 := s.takeWhile fun c => !sp c
def tlL (s : List UInt8) : List UInt8 := s.dropWhile fun c => !sp c
/-- The same, as the reference reads it. -/
def restL (nm rest : List UInt8) : Part :=
  if rest = [] ∧ nL nm = true then (1, nm, 0) else if 2 < rest.length ∧ rest.take 2 = [62, 61] then partL 3 nm (rest.drop 2) else if 2 < rest.length ∧ rest.take 2 = [60, 61] then partL 4 nm (rest.drop 2) else if 1 < rest.length ∧ rest.headD 0 = 61 then partL 5 nm (rest.drop 1) else (0, [], 0)
def readL (s : List UInt8) : Part := if s.headD 0 = 33 then (if nL (s.drop 1) = true then (2, s.drop 1, 0) else (0, [], 0)) else restL (hdL s) (tlL s)

theorem hd_tl (s : List UInt8) : s = hdL s ++ tlL s := (List.takeWhile_append_dropWhile).symm
theorem hd_no {s : List UInt8} {c : UInt8} (h : c ∈ hdL s) : sp c = false := by
  have := List.all_eq_true.1 (List.all_takeWhile (p := fun c => !sp c) (l := s)) c h
  simpa using this
theorem tl_sp {s : List UInt8} {c : UInt8} {r : List UInt8} (h : tlL s = c :: r) : sp c = true := by
  have := List.head?_dropWhile_not (fun c => !sp c) s
  unfold tlL at h
  rw [h] at this
  simpa using this
theorem split_at {s a b : List UInt8} {c : UInt8} (h : s = a ++ c :: b) (ha : ∀ x ∈ a, sp x = false) (hc : sp c = true) : hdL s = a ∧ tlL s = c :: b := by
  subst h
  unfold hdL tlL
  refine ⟨?_, ?_⟩
  · rw [List.takeWhile_append_of_pos (fun x hx => by rw [ha x hx]; rfl), List.takeWhile_cons_of_neg (by rw [hc]; decide), List.append_nil]
  · rw [List.dropWhile_append_of_pos (fun x hx => by rw [ha x hx]; rfl), List.dropWhile_cons_of_neg (by rw [hc]; decide)]

theorem cut_cases (s : List UInt8) (c : UInt8) (t : List UInt8) :
    (Lib.cut s (c :: t) = (s, [], false) ∧ ∀ a b, s ≠ a ++ (c :: t) ++ b) ∨ (∃ a b, Lib.cut s (c :: t) = (a, b, true) ∧ s = a ++ (c :: t) ++ b ∧ ∀ a' b', s = a' ++ (c :: t) ++ b' → a.length ≤ a'.length) := by
  have occ : ∀ a b, s = a ++ (c :: t) ++ b → Lib.occAt s (c :: t) a.length = true := fun a b h => by
    unfold Lib.occAt
    rw [h, List.append_assoc, List.drop_left]
    rw [List.isPrefixOf_iff_prefix]
    exact ⟨b, rfl⟩
  rcases Lib.index_spec s (c :: t) with ⟨h1, h2⟩ | ⟨i, h1, h2, h3, h4⟩
  · refine Or.inl ⟨?_, fun a b h => ?_⟩
    · unfold Lib.cut; rw [h1]; rfl
    · have := h2 a.length (by rw [h]; simp)
      rw [occ a b h] at this; cases this
  · unfold Lib.occAt at h3
    rw [List.isPrefixOf_iff_prefix] at h3
    obtain ⟨b, hb⟩ := h3
    refine Or.inr ⟨s.take i, b, ?_, ?_, fun a' b' h => ?_⟩
    · unfold Lib.cut
      rw [h1, if_pos (by omega), Int.toNat_natCast, ← List.drop_drop, ← hb, List.drop_left]
    · rw [List.append_assoc, hb, List.take_append_drop]
    · rw [List.length_take]
      have h5 := occ a' b' h
      rcases Nat.lt_or_ge a'.length i with hlt | hge
      · have := h4 a'.length hlt
        rw [h5] at this; cases this
      · omega

theorem sp62 : sp 62 = true := rfl
theorem sp60 : sp 60 = true := rfl
theorem sp61 : sp 61 = true := rfl
/-- Whatever was cut at a sign either is no comparison, or was cut at the first sign. -/
theorem cut_first {s a b t : List UInt8} {c : UInt8} (hc : sp c = true) (h : s = a ++ (c :: t) ++ b) (hn : nL a = true) : hdL s = a ∧ tlL s = c :: (t ++ b) :=
  split_at (by rw [h]; simp) (fun x hx => (nL_no hn hx).1) hc
/-- A sign stands at or behind the first one. -/
theorem cut_behind {s a b t : List UInt8} {c : UInt8} (hc : sp c = true) (h : s = a ++ (c :: t) ++ b) : (hdL s).length ≤ a.length := by
  rcases Nat.lt_or_ge a.length (hdL s).length with hlt | hge
  · exfalso
    have h1 : s[a.length]? = some c := by rw [h, List.append_assoc]; simp
    rw [hd_tl s, List.getElem?_append_left hlt] at h1
    have := hd_no (List.mem_of_getElem? h1)
    rw [hc] at this; cases this
  · exact hge
/-- A sign that stands further on is among what is read as a number. -/
theorem sign_in {s a b t nm r : List UInt8} {c : UInt8} {k : Nat} (hs : s = nm ++ r) (h : s = a ++ (c :: t) ++ b) (hk : nm.length + k ≤ a.length) : c ∈ r.drop k := by
  have h1 : s[a.length]? = some c := by rw [h, List.append_assoc]; simp
  rw [hs, List.getElem?_append_right (by omega)] at h1
  have h2 : (r.drop k)[a.length - nm.length - k]? = some c := by
    rw [List.getElem?_drop]
    rw [show k + (a.length - nm.length - k) = a.length - nm.length by omega]
    exact h1
  exact List.mem_of_getElem? h2
theorem okD_sign {r : List UInt8} {c : UInt8} (hc : sp c = true) (h : c ∈ r) : okD r = false := by
  rw [← Bool.not_eq_true]
  intro h2
  have := okD_no h2 h
  rw [hc] at this; cases this

theorem partL_first {s a b : List UInt8} (f : Nat) {c : UInt8} {t : List UInt8} (hc : sp c = true) (h : s = a ++ (c :: t) ++ b) (hn : nL a = true) : partL f a b = partL f (hdL s) ((tlL s).drop (t.length + 1)) := by
  obtain ⟨h1, h2⟩ := cut_first hc h hn
  rw [h1, h2]
  simp
theorem tl_nil_or (s : List UInt8) : tlL s = [] ∨ ∃ c r, tlL s = c :: r ∧ sp c = true := by
  rcases h : tlL s with _ | ⟨c, r⟩
  · exact Or.inl rfl
  · exact Or.inr ⟨c, r, rfl, tl_sp h⟩
theorem take2 {l : List UInt8} {a b : UInt8} (h : l.take 2 = [a, b]) : ∃ r, l = a :: b :: r := by
  rcases l with _ | ⟨x, _ | ⟨y, r⟩⟩
  · simp at h
  · simp at h
  · simp at h
    exact ⟨r, by rw [h.1, h.2]⟩
theorem head1 {l : List UInt8} {a : UInt8} (h0 : 1 < l.length) (h : l.headD 0 = a) : ∃ r, l = a :: r := by
  rcases l with _ | ⟨x, r⟩
  · simp at h0
  · exact ⟨r, by simp at h; rw [h]⟩
/-- Where a sign stands that is not the first one's place, or whose head is no name: the reference reads none. -/
theorem rest_no {s a b t : List UInt8} {c : UInt8} (hc : sp c = true) (h : s = a ++ (c :: t) ++ b) (hbad : nL a = false) (h62 : c = 62 ∨ (c = 60 ∧ ∀ a b, s ≠ a ++ [62, 61] ++ b) ∨ (c = 61 ∧ (∀ a b, s ≠ a ++ [62, 61] ++ b) ∧ (∀ a b, s ≠ a ++ [60, 61] ++ b))) (ht : c = 61 ∨ t = [61]) : restL (hdL s) (tlL s) = (0, [], 0) := by
  have hs := hd_tl s
  have hbeh := cut_behind hc h
  have hat : a.length ≠ (hdL s).length ∨ nL (hdL s) = false := by
    by_cases e : a.length = (hdL s).length
    · right
      have h2 : hdL s = a := by
        have h3 : hdL s ++ tlL s = a ++ ((c :: t) ++ b) := by rw [← hs, ← List.append_assoc]; exact h
        exact (List.append_inj h3 e.symm).1
      rw [h2]; exact hbad
    · exact Or.inl e
  have hne : tlL s ≠ [] := by
    intro e
    have : c ∈ s := by rw [h]; simp
    rw [hs, e, List.append_nil] at this
    have := hd_no this
    rw [hc] at this; cases this
  unfold restL
  rw [if_neg (fun e => hne e.1)]
  split
  · rename_i h1
    obtain ⟨r, hr⟩ := take2 h1.2
    refine part_no ?_
    rcases hat with hat | hat
    · left
      refine okD_sign hc ?_
      have h2 := sign_in (k := 1) hs h (by omega)
      rw [hr] at h2 ⊢
      simp at h2 ⊢
      rcases h2 with h2 | h2
      · exfalso
        subst h2
        rcases h62 with e | ⟨e, _⟩ | ⟨_, h3, _⟩
        · cases e
        · cases e
        · exact h3 (hdL s) r (by rw [List.append_assoc]; exact hs.trans (by rw [hr]; rfl))
      · exact h2
    · exact Or.inr hat
  · split
    · rename_i h1
      obtain ⟨r, hr⟩ := take2 h1.2
      refine part_no ?_
      rcases hat with hat | hat
      · left
        refine okD_sign hc ?_
        have h2 := sign_in (k := 1) hs h (by omega)
        rw [hr] at h2 ⊢
        simp at h2 ⊢
        rcases h2 with h2 | h2
        · exfalso
          subst h2
          rcases h62 with e | ⟨e, _⟩ | ⟨_, _, h3⟩
          · cases e
          · cases e
          · exact h3 (hdL s) r (by rw [List.append_assoc]; exact hs.trans (by rw [hr]; rfl))
        · exact h2
      · exact Or.inr hat
    · split
      · rename_i h1
        obtain ⟨r, hr⟩ := head1 h1.1 h1.2
        refine part_no ?_
        rcases hat with hat | hat
        · left
          refine okD_sign hc ?_
          have h2 := sign_in (k := 1) hs h (by omega)
          exact h2
        · exact Or.inr hat
      · rfl
/-- At the first sign both read alike. -/
theorem rest_at {s r : List UInt8} : (tlL s = 62 :: 61 :: r → restL (hdL s) (tlL s) = partL 3 (hdL s) r) ∧ (tlL s = 60 :: 61 :: r → restL (hdL s) (tlL s) = partL 4 (hdL s) r) ∧ (tlL s = 61 :: r → restL (hdL s) (tlL s) = partL 5 (hdL s) r) := by
  refine ⟨fun h => ?_, fun h => ?_, fun h => ?_⟩
  · unfold restL
    rw [h, if_neg (by simp)]
    by_cases h1 : r = []
    · subst h1
      rw [if_neg (by simp), if_neg (by simp), if_neg (by simp), part_no (Or.inl okD_nil)]
    · have : 0 < r.length := List.length_pos_iff.2 h1
      rw [if_pos (by simp; omega)]; rfl
  · unfold restL
    rw [h, if_neg (by simp), if_neg (by simp)]
    by_cases h1 : r = []
    · subst h1
      rw [if_neg (by simp), if_neg (by simp), part_no (Or.inl okD_nil)]
    · have : 0 < r.length := List.length_pos_iff.2 h1
      rw [if_pos (by simp; omega)]; rfl
  · unfold restL
    rw [h, if_neg (by simp), if_neg (by simp), if_neg (by simp)]
    by_cases h1 : r = []
    · subst h1
      rw [if_neg (by simp), part_no (Or.inl okD_nil)]
    · have : 0 < r.length := List.length_pos_iff.2 h1
      rw [if_pos (by simp; omega)]; rfl
/-- Without a sign there is no comparison. -/
theorem rest_none {s : List UInt8} (hn : nL s = false) (h1 : ∀ a b, s ≠ a ++ [62, 61] ++ b) (h2 : ∀ a b, s ≠ a ++ [60, 61] ++ b) (h3 : ∀ a b, s ≠ a ++ [61] ++ b) : restL (hdL s) (tlL s) = (0, [], 0) := by
  have hs := hd_tl s
  unfold restL
  rw [if_neg (fun e => by
    have : s = hdL s := by rw [e.1, List.append_nil] at hs; exact hs
    rw [this, e.2] at hn; cases hn)]
  rw [if_neg (fun e => by obtain ⟨r, hr⟩ := take2 e.2; exact h1 (hdL s) r (by rw [hr] at hs; rw [List.append_assoc]; exact hs))]
  rw [if_neg (fun e => by obtain ⟨r, hr⟩ := take2 e.2; exact h2 (hdL s) r (by rw [hr] at hs; rw [List.append_assoc]; exact hs))]
  rw [if_neg (fun e => by obtain ⟨r, hr⟩ := head1 e.1 e.2; exact h3 (hdL s) r (by rw [hr] at hs; rw [List.append_assoc]; exact hs))]
theorem comp_eq {s : List UInt8} (hn : nL s = false) : compL s = restL (hdL s) (tlL s) := by
  unfold compL
  rcases cut_cases s 62 [61] with ⟨e1, n1⟩ | ⟨a, b, e1, h1, _⟩
  · rw [e1, if_neg (by simp)]
    rcases cut_cases s 60 [61] with ⟨e2, n2⟩ | ⟨a, b, e2, h2, _⟩
    · rw [e2, if_neg (by simp)]
      rcases cut_cases s 61 [] with ⟨e3, n3⟩ | ⟨a, b, e3, h3, _⟩
      · rw [e3, if_neg (by simp), rest_none hn n1 n2 n3]
      · rw [e3, if_pos rfl]
        rcases hb : nL a with _ | _
        · rw [part_no (Or.inr hb), rest_no sp61 h3 hb (Or.inr (Or.inr ⟨rfl, n1, n2⟩)) (Or.inl rfl)]
        · obtain ⟨q1, q2⟩ := cut_first sp61 h3 hb
          rw [(rest_at (r := b)).2.2 (by rw [q2]; rfl), q1]
    · rw [e2, if_pos rfl]
      rcases hb : nL a with _ | _
      · rw [part_no (Or.inr hb), rest_no sp60 h2 hb (Or.inr (Or.inl ⟨rfl, n1⟩)) (Or.inr rfl)]
      · obtain ⟨q1, q2⟩ := cut_first sp60 h2 hb
        rw [(rest_at (r := b)).2.1 (by rw [q2]; rfl), q1]
  · rw [e1, if_pos rfl]
    rcases hb : nL a with _ | _
    · rw [part_no (Or.inr hb), rest_no sp62 h1 hb (Or.inl rfl) (Or.inr rfl)]
    · obtain ⟨q1, q2⟩ := cut_first sp62 h1 hb
      rw [(rest_at (r := b)).1 (by rw [q2]; rfl), q1]
/-- Behind an exclamation mark no comparison is read. -/
theorem comp_bang {r : List UInt8} : compL (33 :: r) = (0, [], 0) := by
  have hbad : ∀ a b (c : UInt8) t, (33 : UInt8) :: r = a ++ (c :: t) ++ b → sp c = true → nL a = false := fun a b c t h hc => by
    rw [← Bool.not_eq_true]
    intro hn
    rcases a with _ | ⟨x, a⟩
    · simp at h
      rw [← h.1] at hc; cases hc
    · simp at h
      have := (nL_no hn (c := x) (by simp)).2
      rw [← h.1] at this
      exact this rfl
  unfold compL
  rcases cut_cases (33 :: r) 62 [61] with ⟨e1, _⟩ | ⟨a, b, e1, h1, _⟩
  · rw [e1, if_neg (by simp)]
    rcases cut_cases (33 :: r) 60 [61] with ⟨e2, _⟩ | ⟨a, b, e2, h2, _⟩
    · rw [e2, if_neg (by simp)]
      rcases cut_cases (33 :: r) 61 [] with ⟨e3, _⟩ | ⟨a, b, e3, h3, _⟩
      · rw [e3, if_neg (by simp)]
      · rw [e3, if_pos rfl]; exact part_no (Or.inr (hbad _ _ _ _ h3 rfl))
    · rw [e2, if_pos rfl]; exact part_no (Or.inr (hbad _ _ _ _ h2 rfl))
  · rw [e1, if_pos rfl]; exact part_no (Or.inr (hbad _ _ _ _ h1 rfl))
/-- The program and the reference read a requirement alike. -/
theorem parse_eq (s : List UInt8) : parseL s = readL s := by
  unfold parseL readL
  rcases s with _ | ⟨c, r⟩
  · have h0 : nL [] = false := by decide +kernel
    rw [h0, if_neg (by decide), if_neg (by rintro ⟨h, _⟩; cases h), if_neg (by decide)]
    exact comp_eq h0
  · by_cases hc : c = 33
    · subst hc
      have h0 : nL (33 :: r) = false := by
        rw [← Bool.not_eq_true]
        intro h
        exact (nL_no h (c := 33) (by simp)).2 rfl
      have h1 : Lib.hasPrefix (33 :: r) [33] = true := by simp [Lib.hasPrefix]
      have h2 : Lib.trimPrefix (33 :: r) [33] = r := by simp [Lib.trimPrefix, Lib.hasPrefix]
      rw [h0, if_neg (by decide), h1, h2, if_pos (show (33 :: r).headD 0 = 33 from rfl)]
      by_cases hn : nL r = true
      · rw [if_pos ⟨rfl, hn⟩, if_pos (show nL ((33 :: r).drop 1) = true from hn)]; rfl
      · rw [if_neg (fun h => hn h.2), if_neg (show ¬ nL ((33 :: r).drop 1) = true from hn)]
        exact comp_bang
    · have h1 : Lib.hasPrefix (c :: r) [33] = false := by
        simp only [Lib.hasPrefix, List.isPrefixOf, Bool.and_true, beq_eq_false_iff_ne]
        exact fun h => hc h.symm
      rw [h1, if_neg (show ¬ ((c :: r).headD 0 = 33) from hc)]
      rcases hn : nL (c :: r) with _ | _
      · rw [if_neg (by decide), if_neg (by rintro ⟨h, _⟩; cases h)]
        exact comp_eq hn
      · rw [if_pos rfl]
        have hno : ∀ x ∈ c :: r, sp x = false := fun x hx => (nL_no hn hx).1
        have e1 : hdL (c :: r) = c :: r := by
          unfold hdL
          have := List.takeWhile_append_of_pos (p := fun c => !sp c) (l₁ := c :: r) (l₂ := []) (fun x hx => by rw [hno x hx]; rfl)
          simpa using this
        have e2 : tlL (c :: r) = [] := by
          have := hd_tl (c :: r)
          rw [e1] at this
          simpa using this
        rw [e1, e2]
        unfold restL
        rw [if_pos ⟨rfl, hn⟩]
end Go.Proofs.YtnahbfmbmpoljaaGreatDoor
