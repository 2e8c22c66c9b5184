/-
  The walks of histories: whether results are valid, by the program.
-/
import Derived.Test.YtddepmelnemniaaDoorHis15
import Derived.Test.YtddepmelnemniaaDoorMapB


namespace Go.Proofs.YtddepmelnemniaaDoor
open Go.RowKit Go.Maps

def litS (s : Str) : Lit := .string s.1.data.toList
theorem litS_inj {a b : Str} (h : litS a = litS b) : a = b := by
  unfold litS at h
  simp only [Lit.string.injEq] at h
  exact Subtype.ext (ByteArray.ext (Array.ext' h))
/-- The names seen so far, as keys. -/
def SeenR (ns : List Str) (x : Lit) : Prop := ∃ s ∈ ns, x = litS s
theorem seenr_iff {ns : List Str} {s : Str} : hasS ns s = true ↔ SeenR ns (litS s) := by
  rw [hasS_iff]
  exact ⟨fun h => ⟨s, h, rfl⟩, fun ⟨t, ht, e⟩ => by rw [litS_inj e]; exact ht⟩
theorem seenr_succ (ns : List Str) (s : Str) (x : Lit) : SeenR (ns ++ [s]) x ↔ x = litS s ∨ SeenR ns x := by
  unfold SeenR
  constructor
  · rintro ⟨t, ht, e⟩
    rcases List.mem_append.1 ht with h | h
    · exact Or.inr ⟨t, h, e⟩
    · obtain rfl : t = s := by simpa using h
      exact Or.inl e
  · rintro (e | ⟨t, ht, e⟩)
    · exact ⟨s, by simp, e⟩
    · exact ⟨t, by simp [ht], e⟩
theorem MapB.congr {P : Program} {k e : TypeId} {w : World} {b n : Nat} {S T : Lit → Prop} (h : MapB P k e w b n S) (hst : ∀ x, T x ↔ S x) : MapB P k e w b n T := by
  obtain ⟨D, h1, h2, h3⟩ := h
  exact ⟨D, h1, h2, fun x => ⟨fun h => (h3 x).1 ((hst x).1 h), fun h => (h3 x).2 fun h' => h ((hst x).2 h')⟩⟩
theorem res_1 {seen : List Str} {r : Res} (h : pathB r.name = false ∨ r.status.1 < 1 ∨ 3 < r.status.1) : resErr seen r = 1 := by unfold resErr; rw [if_pos h]
theorem res_2 {seen : List Str} {r : Res} (h : ¬ (pathB r.name = false ∨ r.status.1 < 1 ∨ 3 < r.status.1)) (h2 : timeB r.time.1 = false) : resErr seen r = 2 := by unfold resErr; rw [if_neg h, if_pos h2]
theorem res_7 {seen : List Str} {r : Res} (h : ¬ (pathB r.name = false ∨ r.status.1 < 1 ∨ 3 < r.status.1)) (h2 : timeB r.time.1 = true) (h3 : hasS seen r.name = true) : resErr seen r = 7 := by unfold resErr; rw [if_neg h, if_neg (by rw [h2]; decide), if_pos h3]
theorem res_0 {seen : List Str} {r : Res} (h : ¬ (pathB r.name = false ∨ r.status.1 < 1 ∨ 3 < r.status.1)) (h2 : timeB r.time.1 = true) (h3 : hasS seen r.name = false) : resErr seen r = 0 := by unfold resErr; rw [if_neg h, if_neg (by rw [h2]; decide), if_neg (by rw [h3]; decide)]
theorem timeB_no {n : Int} (h : n < 0 ∨ 1125899906842624 < n) : timeB n = false := by
  rw [Bool.eq_false_iff]
  intro e
  have := timeB_iff.1 e
  omega
set_option maxRecDepth 100000 in
set_option maxHeartbeats 8000000 in
theorem repv_any (A : Option Addr) (c : Nat) (l : List Res) (w : World) (hr : Rw resE 3 w w.heap.size A l) (hn : l.length ≤ 9223372036854775807) (hs : ∀ x ∈ l, x.name.1.size < 4294967281) (hG : Glob w) :
    Calls Tryd.prog 16 #[.slice A l.length c] w fun e w' => e = .returned (.int .i64 (repErr l)) ∧ Below w.heap.size w w' := by
  obtain ⟨R, hR⟩ : ∃ R, repErr l = R := ⟨_, rfl⟩
  rw [hR]
  by_cases hl : 4096 < l.length
  · have hf : Hid (R = 15) := Lib.hid (by rw [← hR]; unfold repErr; rw [if_pos hl])
    have hlz : (4096 : Int) < (l.length : Int) := by omega
    replace hR := Lib.hid hR
    clear hr
    go_enter Tryd.func16, Tryd.ntmps16
    go_wp2_with fail
    go_ret
    exact ⟨by rw [hf.out]; rfl, (by repeat (first | (with_reducible exact Below.refl _ _) | (with_reducible refine Below.drew ?_) | (with_reducible refine below_drewN ?_ _) | ((with_reducible refine Below.alloc ?_ ?_ _); rotate_left; focus ((try simp) <;> omega)) | ((with_reducible refine Below.setCell ?_ ?_ _); rotate_left; focus ((try simp) <;> omega)) | ((with_reducible refine Below.trans ?_ (Below.mono (by assumption) ?_)); rotate_left; focus ((try simp) <;> omega))))⟩
  have hR0 : Hid (ressErr [] l = R) := Lib.hid (by rw [← hR]; unfold repErr; rw [if_neg hl])
  have hlz : ¬ (4096 : Int) < (l.length : Int) := by omega
  replace hR := Lib.hid hR
  replace hr := Lib.hid hr
  replace hs := Lib.hid hs
  replace hG := Lib.hid hG
  go_enter Tryd.func16, Tryd.ntmps16
  have hmm := @run_makeMap Tryd.prog
  go_wp2_with fail
  clear hmm
  go_loopw [14] (fun vi wr => ∃ k : Nat, k ≤ l.length ∧ vi = .int .i64 (k : Int) ∧ ressErr ((l.take k).map Res.name) (l.drop k) = R ∧ MapB Tryd.prog 9 4 wr w.heap.size k (SeenR ((l.take k).map Res.name)) ∧ Below w.heap.size w wr) (fun vi _ => l.length - (intOf vi).toNat)
  case atStart => exact ⟨0, Nat.zero_le _, rfl, hR0.out, (MapB.made w Tryd.prog 9 4).congr fun x => ⟨fun ⟨s, h, _⟩ => absurd h (by simp), fun h => h.elim⟩, (Below.refl _ _).alloc (Nat.le_refl _) _⟩
  case round =>
    obtain ⟨k, hk, rfl, ht, hmp, hbw⟩ := hrel
    have hz := hbw.size
    have hmlt := hmp.lt
    replace hmp := Lib.hid hmp
    by_cases hkl : k < l.length
    · obtain ⟨x, hx⟩ := get_some hkl
      rw [ress_at hx] at ht
      have hns : (l.take (k + 1)).map Res.name = (l.take k).map Res.name ++ [x.name] := by rw [List.take_add_one, hx, List.map_append]; rfl
      obtain ⟨g, o, rfl, hg, hq⟩ := hr.out (by omega)
      have q := fun j u hu => (hbw.cell (p := ⟨g, o + k * 3 + j, none⟩) hg).trans (hq k x hx j u hu)
      have q0 := q 0 (.string x.name.1) rfl
      rw [Nat.add_zero] at q0
      have q1 := q 1 (.int .i64 x.status.1) rfl
      have q2 := q 2 (.int .i64 x.time.1) rfl
      clear q hq
      have hgr : g < wr.heap.size := by omega
      have ng1 : g ≠ wr.heap.size := by omega
      have ng2 : wr.heap.size ≠ g := by omega
      have i0 : (0 : Int) ≤ (k : Int) := by omega
      have i1 : (k : Int) < (l.length : Int) := by omega
      have hxs := hs.out x (List.mem_of_getElem? hx)
      have hnl : x.name.1.size ≤ maxLen := by simp only [maxLen]; omega
      have hpa0 := fun W (hb : Below w.heap.size w W) => parts_any x.name W (hG.out.keep hb) hxs
      obtain ⟨P, hP0⟩ : ∃ P, pathE x.name = P := ⟨_, rfl⟩
      rw [hP0] at hpa0
      have hpa := Lib.hid hpa0
      clear hpa0
      obtain ⟨S, hS⟩ : ∃ S, hasS ((l.take k).map Res.name) x.name = S := ⟨_, rfl⟩
      have hsn : Hid (S = true ↔ SeenR ((l.take k).map Res.name) (litS x.name)) := Lib.hid (by rw [← hS]; exact seenr_iff)
      have hsx : Hid (∀ y, SeenR ((l.take (k + 1)).map Res.name) y ↔ y = litS x.name ∨ SeenR ((l.take k).map Res.name) y) := Lib.hid (by rw [hns]; exact seenr_succ _ _)
      by_cases hp0 : P = 0
      · have hPE : pathB x.name = true := pathB_of.2 (hP0.trans hp0)
        subst hp0
        replace hP0 := Lib.hid hP0
        by_cases h1 : x.status.1 < 1
        · have hf : Hid (R = 1) := Lib.hid (by rw [res_1 (.inr (.inl h1))] at ht; exact ht.symm)
          replace hx := Lib.hid hx
          replace hPE := Lib.hid hPE
          replace ht := Lib.hid ht
          replace hns := Lib.hid hns
          replace hS := Lib.hid hS
          go_wp2_with (go_at_call 31; go_must (refine (hpa.out _ (by repeat (first | (with_reducible exact Below.refl _ _) | (with_reducible refine Below.drew ?_) | (with_reducible refine below_drewN ?_ _) | ((with_reducible refine Below.alloc ?_ ?_ _); rotate_left; focus ((try simp) <;> omega)) | ((with_reducible refine Below.setCell ?_ ?_ _); rotate_left; focus ((try simp) <;> omega)) | ((with_reducible refine Below.trans ?_ (Below.mono (by assumption) ?_)); rotate_left; focus ((try simp) <;> omega))))).mono ?_; rintro e w2 ⟨A2, c2, rfl, -, -, hb2⟩; have hz2 := hb2.size; (try simp at hz2); have hk2 : wr.heap.size < w2.heap.size := (by omega); obtain ⟨hd2, he2⟩ := blk_at hb2 wr.heap.size (by (try simp) <;> omega)))
          go_ret
          exact ⟨by rw [hf.out]; rfl, (by repeat (first | (with_reducible exact Below.refl _ _) | (with_reducible refine Below.drew ?_) | (with_reducible refine below_drewN ?_ _) | ((with_reducible refine Below.alloc ?_ ?_ _); rotate_left; focus ((try simp) <;> omega)) | ((with_reducible refine Below.setCell ?_ ?_ _); rotate_left; focus ((try simp) <;> omega)) | ((with_reducible refine Below.trans ?_ (Below.mono (by assumption) ?_)); rotate_left; focus ((try simp) <;> omega))))⟩
        by_cases h2 : 3 < x.status.1
        · have hf : Hid (R = 1) := Lib.hid (by rw [res_1 (.inr (.inr h2))] at ht; exact ht.symm)
          replace hx := Lib.hid hx
          replace hPE := Lib.hid hPE
          replace ht := Lib.hid ht
          replace hns := Lib.hid hns
          replace hS := Lib.hid hS
          go_wp2_with (go_at_call 31; go_must (refine (hpa.out _ (by repeat (first | (with_reducible exact Below.refl _ _) | (with_reducible refine Below.drew ?_) | (with_reducible refine below_drewN ?_ _) | ((with_reducible refine Below.alloc ?_ ?_ _); rotate_left; focus ((try simp) <;> omega)) | ((with_reducible refine Below.setCell ?_ ?_ _); rotate_left; focus ((try simp) <;> omega)) | ((with_reducible refine Below.trans ?_ (Below.mono (by assumption) ?_)); rotate_left; focus ((try simp) <;> omega))))).mono ?_; rintro e w2 ⟨A2, c2, rfl, -, -, hb2⟩; have hz2 := hb2.size; (try simp at hz2); have hk2 : wr.heap.size < w2.heap.size := (by omega); obtain ⟨hd2, he2⟩ := blk_at hb2 wr.heap.size (by (try simp) <;> omega)))
          go_ret
          exact ⟨by rw [hf.out]; rfl, (by repeat (first | (with_reducible exact Below.refl _ _) | (with_reducible refine Below.drew ?_) | (with_reducible refine below_drewN ?_ _) | ((with_reducible refine Below.alloc ?_ ?_ _); rotate_left; focus ((try simp) <;> omega)) | ((with_reducible refine Below.setCell ?_ ?_ _); rotate_left; focus ((try simp) <;> omega)) | ((with_reducible refine Below.trans ?_ (Below.mono (by assumption) ?_)); rotate_left; focus ((try simp) <;> omega))))⟩
        have h12 : Hid (¬ (pathB x.name = false ∨ x.status.1 < 1 ∨ 3 < x.status.1)) := Lib.hid (by rw [hPE]; simp; omega)
        by_cases h3 : x.time.1 < 0
        · have hf : Hid (R = 2) := Lib.hid (by rw [res_2 h12.out (timeB_no (.inl h3))] at ht; exact ht.symm)
          replace hx := Lib.hid hx
          replace hPE := Lib.hid hPE
          replace ht := Lib.hid ht
          replace hns := Lib.hid hns
          replace hS := Lib.hid hS
          go_wp2_with (go_at_call 31; go_must (refine (hpa.out _ (by repeat (first | (with_reducible exact Below.refl _ _) | (with_reducible refine Below.drew ?_) | (with_reducible refine below_drewN ?_ _) | ((with_reducible refine Below.alloc ?_ ?_ _); rotate_left; focus ((try simp) <;> omega)) | ((with_reducible refine Below.setCell ?_ ?_ _); rotate_left; focus ((try simp) <;> omega)) | ((with_reducible refine Below.trans ?_ (Below.mono (by assumption) ?_)); rotate_left; focus ((try simp) <;> omega))))).mono ?_; rintro e w2 ⟨A2, c2, rfl, -, -, hb2⟩; have hz2 := hb2.size; (try simp at hz2); have hk2 : wr.heap.size < w2.heap.size := (by omega); obtain ⟨hd2, he2⟩ := blk_at hb2 wr.heap.size (by (try simp) <;> omega)))
          go_ret
          exact ⟨by rw [hf.out]; rfl, (by repeat (first | (with_reducible exact Below.refl _ _) | (with_reducible refine Below.drew ?_) | (with_reducible refine below_drewN ?_ _) | ((with_reducible refine Below.alloc ?_ ?_ _); rotate_left; focus ((try simp) <;> omega)) | ((with_reducible refine Below.setCell ?_ ?_ _); rotate_left; focus ((try simp) <;> omega)) | ((with_reducible refine Below.trans ?_ (Below.mono (by assumption) ?_)); rotate_left; focus ((try simp) <;> omega))))⟩
        by_cases h4 : 1125899906842624 < x.time.1
        · have hf : Hid (R = 2) := Lib.hid (by rw [res_2 h12.out (timeB_no (.inr h4))] at ht; exact ht.symm)
          replace hx := Lib.hid hx
          replace hPE := Lib.hid hPE
          replace ht := Lib.hid ht
          replace hns := Lib.hid hns
          replace hS := Lib.hid hS
          go_wp2_with (go_at_call 31; go_must (refine (hpa.out _ (by repeat (first | (with_reducible exact Below.refl _ _) | (with_reducible refine Below.drew ?_) | (with_reducible refine below_drewN ?_ _) | ((with_reducible refine Below.alloc ?_ ?_ _); rotate_left; focus ((try simp) <;> omega)) | ((with_reducible refine Below.setCell ?_ ?_ _); rotate_left; focus ((try simp) <;> omega)) | ((with_reducible refine Below.trans ?_ (Below.mono (by assumption) ?_)); rotate_left; focus ((try simp) <;> omega))))).mono ?_; rintro e w2 ⟨A2, c2, rfl, -, -, hb2⟩; have hz2 := hb2.size; (try simp at hz2); have hk2 : wr.heap.size < w2.heap.size := (by omega); obtain ⟨hd2, he2⟩ := blk_at hb2 wr.heap.size (by (try simp) <;> omega)))
          go_ret
          exact ⟨by rw [hf.out]; rfl, (by repeat (first | (with_reducible exact Below.refl _ _) | (with_reducible refine Below.drew ?_) | (with_reducible refine below_drewN ?_ _) | ((with_reducible refine Below.alloc ?_ ?_ _); rotate_left; focus ((try simp) <;> omega)) | ((with_reducible refine Below.setCell ?_ ?_ _); rotate_left; focus ((try simp) <;> omega)) | ((with_reducible refine Below.trans ?_ (Below.mono (by assumption) ?_)); rotate_left; focus ((try simp) <;> omega))))⟩
        have htb : timeB x.time.1 = true := timeB_iff.2 (by omega)
        rcases S with _ | _
        · have hn2 : Hid (ressErr ((l.take (k + 1)).map Res.name) (l.drop (k + 1)) = R) := Lib.hid (by rw [hns]; rw [res_0 h12.out htb hS, if_pos rfl] at ht; exact ht)
          replace hx := Lib.hid hx
          replace hPE := Lib.hid hPE
          replace ht := Lib.hid ht
          replace hns := Lib.hid hns
          replace hS := Lib.hid hS
          replace htb := Lib.hid htb
          go_wp2_with (first
            | (go_at_call 31; go_must (refine (hpa.out _ (by repeat (first | (with_reducible exact Below.refl _ _) | (with_reducible refine Below.drew ?_) | (with_reducible refine below_drewN ?_ _) | ((with_reducible refine Below.alloc ?_ ?_ _); rotate_left; focus ((try simp) <;> omega)) | ((with_reducible refine Below.setCell ?_ ?_ _); rotate_left; focus ((try simp) <;> omega)) | ((with_reducible refine Below.trans ?_ (Below.mono (by assumption) ?_)); rotate_left; focus ((try simp) <;> omega))))).mono ?_; rintro e w2 ⟨A2, c2, rfl, -, -, hb2⟩; have hz2 := hb2.size; (try simp at hz2); have hk2 : wr.heap.size < w2.heap.size := (by omega); obtain ⟨hd2, he2⟩ := blk_at hb2 wr.heap.size (by (try simp) <;> omega)))
            | (at_lookup; refine wpList_look_mapb rfl (.tmp 41) (.tmp 43) 78 rfl 9 4 (Go.Maps.string_keyed Tryd.underlying9) Tryd.underlying78 Tryd.underlying4 (by kernel_rfl) w.heap.size k (SeenR ((l.take k).map Res.name)) rfl (hmp.out.keep (B := wr.heap.size) (by repeat (first | (with_reducible exact Below.refl _ _) | (with_reducible refine Below.drew ?_) | (with_reducible refine below_drewN ?_ _) | ((with_reducible refine Below.alloc ?_ ?_ _); rotate_left; focus ((try simp) <;> omega)) | ((with_reducible refine Below.setCell ?_ ?_ _); rotate_left; focus ((try simp) <;> omega)) | ((with_reducible refine Below.trans ?_ (Below.mono (by assumption) ?_)); rotate_left; focus ((try simp) <;> omega)))) hmlt) _ (litS x.name) rfl (Go.WideMaps.keyOf_string_mk Tryd.underlying9 hnl) false (by simpa using hsn.out) ?_)
            | (at_mapUpdate; refine wpList_put_mapb rfl (.tmp 45) (.tmp 47) (.const (.bool true)) 78 rfl 9 4 (Go.Maps.string_keyed Tryd.underlying9) Tryd.underlying78 Tryd.underlying4 w.heap.size k (SeenR ((l.take k).map Res.name)) rfl (hmp.out.keep (B := wr.heap.size) (by repeat (first | (with_reducible exact Below.refl _ _) | (with_reducible refine Below.drew ?_) | (with_reducible refine below_drewN ?_ _) | ((with_reducible refine Below.alloc ?_ ?_ _); rotate_left; focus ((try simp) <;> omega)) | ((with_reducible refine Below.setCell ?_ ?_ _); rotate_left; focus ((try simp) <;> omega)) | ((with_reducible refine Below.trans ?_ (Below.mono (by assumption) ?_)); rotate_left; focus ((try simp) <;> omega)))) hmlt) (by simp only [maxLen]; omega) _ (litS x.name) rfl rfl (Go.WideMaps.keyOf_string_mk Tryd.underlying9 hnl) trivial ?_; intro w3 hmp3 hg3; have hz3 := hg3.size))
          go_roundw
          case rel => exact ⟨k + 1, hkl, by go_num, hn2.out, hmp3.congr hsx.out, Below.grown (by repeat (first | (with_reducible exact Below.refl _ _) | (with_reducible refine Below.drew ?_) | (with_reducible refine below_drewN ?_ _) | ((with_reducible refine Below.alloc ?_ ?_ _); rotate_left; focus ((try simp) <;> omega)) | ((with_reducible refine Below.setCell ?_ ?_ _); rotate_left; focus ((try simp) <;> omega)) | ((with_reducible refine Below.trans ?_ (Below.mono (by assumption) ?_)); rotate_left; focus ((try simp) <;> omega)))) hg3 (by (try simp) <;> omega) (fun g hg => by simp at hg; omega)⟩
          case measure => simp [intOf]; omega
        · have hf : Hid (R = 7) := Lib.hid (by rw [res_7 h12.out htb hS] at ht; exact ht.symm)
          replace hx := Lib.hid hx
          replace hPE := Lib.hid hPE
          replace ht := Lib.hid ht
          replace hns := Lib.hid hns
          replace hS := Lib.hid hS
          replace htb := Lib.hid htb
          go_wp2_with (first
            | (go_at_call 31; go_must (refine (hpa.out _ (by repeat (first | (with_reducible exact Below.refl _ _) | (with_reducible refine Below.drew ?_) | (with_reducible refine below_drewN ?_ _) | ((with_reducible refine Below.alloc ?_ ?_ _); rotate_left; focus ((try simp) <;> omega)) | ((with_reducible refine Below.setCell ?_ ?_ _); rotate_left; focus ((try simp) <;> omega)) | ((with_reducible refine Below.trans ?_ (Below.mono (by assumption) ?_)); rotate_left; focus ((try simp) <;> omega))))).mono ?_; rintro e w2 ⟨A2, c2, rfl, -, -, hb2⟩; have hz2 := hb2.size; (try simp at hz2); have hk2 : wr.heap.size < w2.heap.size := (by omega); obtain ⟨hd2, he2⟩ := blk_at hb2 wr.heap.size (by (try simp) <;> omega)))
            | (at_lookup; refine wpList_look_mapb rfl (.tmp 41) (.tmp 43) 78 rfl 9 4 (Go.Maps.string_keyed Tryd.underlying9) Tryd.underlying78 Tryd.underlying4 (by kernel_rfl) w.heap.size k (SeenR ((l.take k).map Res.name)) rfl (hmp.out.keep (B := wr.heap.size) (by repeat (first | (with_reducible exact Below.refl _ _) | (with_reducible refine Below.drew ?_) | (with_reducible refine below_drewN ?_ _) | ((with_reducible refine Below.alloc ?_ ?_ _); rotate_left; focus ((try simp) <;> omega)) | ((with_reducible refine Below.setCell ?_ ?_ _); rotate_left; focus ((try simp) <;> omega)) | ((with_reducible refine Below.trans ?_ (Below.mono (by assumption) ?_)); rotate_left; focus ((try simp) <;> omega)))) hmlt) _ (litS x.name) rfl (Go.WideMaps.keyOf_string_mk Tryd.underlying9 hnl) true (by simpa using hsn.out) ?_))
          go_ret
          exact ⟨by rw [hf.out]; rfl, (by repeat (first | (with_reducible exact Below.refl _ _) | (with_reducible refine Below.drew ?_) | (with_reducible refine below_drewN ?_ _) | ((with_reducible refine Below.alloc ?_ ?_ _); rotate_left; focus ((try simp) <;> omega)) | ((with_reducible refine Below.setCell ?_ ?_ _); rotate_left; focus ((try simp) <;> omega)) | ((with_reducible refine Below.trans ?_ (Below.mono (by assumption) ?_)); rotate_left; focus ((try simp) <;> omega))))⟩
      · have hPE : pathB x.name = false := pathB_no.2 (fun e => hp0 (hP0.symm.trans e))
        have hf : Hid (R = 1) := Lib.hid (by rw [res_1 (.inl hPE)] at ht; exact ht.symm)
        have hPb : (P != 0) = true := by rw [bne_iff_ne]; exact hp0
        replace hP0 := Lib.hid hP0
        replace hp0 := Lib.hid hp0
        replace hx := Lib.hid hx
        replace hPE := Lib.hid hPE
        replace ht := Lib.hid ht
        replace hns := Lib.hid hns
        replace hS := Lib.hid hS
        go_wp2_with (go_at_call 31; go_must (refine (hpa.out _ (by repeat (first | (with_reducible exact Below.refl _ _) | (with_reducible refine Below.drew ?_) | (with_reducible refine below_drewN ?_ _) | ((with_reducible refine Below.alloc ?_ ?_ _); rotate_left; focus ((try simp) <;> omega)) | ((with_reducible refine Below.setCell ?_ ?_ _); rotate_left; focus ((try simp) <;> omega)) | ((with_reducible refine Below.trans ?_ (Below.mono (by assumption) ?_)); rotate_left; focus ((try simp) <;> omega))))).mono ?_; rintro e w2 ⟨A2, c2, rfl, -, -, hb2⟩; have hz2 := hb2.size; (try simp at hz2); have hk2 : wr.heap.size < w2.heap.size := (by omega); obtain ⟨hd2, he2⟩ := blk_at hb2 wr.heap.size (by (try simp) <;> omega)))
        go_ret
        exact ⟨by rw [hf.out]; rfl, (by repeat (first | (with_reducible exact Below.refl _ _) | (with_reducible refine Below.drew ?_) | (with_reducible refine below_drewN ?_ _) | ((with_reducible refine Below.alloc ?_ ?_ _); rotate_left; focus ((try simp) <;> omega)) | ((with_reducible refine Below.setCell ?_ ?_ _); rotate_left; focus ((try simp) <;> omega)) | ((with_reducible refine Below.trans ?_ (Below.mono (by assumption) ?_)); rotate_left; focus ((try simp) <;> omega))))⟩
    · have i1 : ¬ (k : Int) < (l.length : Int) := by omega
      have hf : Hid (R = 0) := Lib.hid (by rw [← ht, ress_end hkl])
      replace ht := Lib.hid ht
      go_wp2_with fail
      go_ret
      exact ⟨by rw [hf.out]; rfl, (by repeat (first | (with_reducible exact Below.refl _ _) | (with_reducible refine Below.drew ?_) | (with_reducible refine below_drewN ?_ _) | ((with_reducible refine Below.alloc ?_ ?_ _); rotate_left; focus ((try simp) <;> omega)) | ((with_reducible refine Below.setCell ?_ ?_ _); rotate_left; focus ((try simp) <;> omega)) | ((with_reducible refine Below.trans ?_ (Below.mono (by assumption) ?_)); rotate_left; focus ((try simp) <;> omega))))⟩
end Go.Proofs.YtddepmelnemniaaDoor
