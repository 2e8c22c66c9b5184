/-
  The walks of shards: what the program's clock knows, the clock, the load of tests.
-/
import Derived.Test.YtdjepnilmgembaaGreatDoorShw2b
import Derived.Test.YtdjepnilmgembaaGreatDoorMapBI
import Derived.Test.YtdjepnilmgembaaGreatDoorCopyGr
import Derived.Deep.DeepCutAuto


namespace Go.Proofs.YtdjepnilmgembaaGreatDoor
open Go.RowKit Go.Maps

def litS (s : Str) : Lit := .string s.1.data.toList
theorem litS_inj {a b : Str} (h : litS a = litS b) : a = b := by
  unfold litS at h
  simp only [Lit.string.injEq] at h
  exact Subtype.ext (ByteArray.ext (Array.ext' h))
/-- The names seen so far, as keys. -/
def SeenR (ns : List Str) (x : Lit) : Prop := ∃ s ∈ ns, x = litS s
theorem seenr_iff {ns : List Str} {s : Str} : hasS ns s = true ↔ SeenR ns (litS s) := by
  rw [hasS_iff]
  exact ⟨fun h => ⟨s, h, rfl⟩, fun ⟨t, ht, e⟩ => by rw [litS_inj e]; exact ht⟩
theorem seenr_succ (ns : List Str) (s : Str) (x : Lit) : SeenR (ns ++ [s]) x ↔ x = litS s ∨ SeenR ns x := by
  unfold SeenR
  constructor
  · rintro ⟨t, ht, e⟩
    rcases List.mem_append.1 ht with h | h
    · exact Or.inr ⟨t, h, e⟩
    · obtain rfl : t = s := by simpa using h
      exact Or.inl e
  · rintro (e | ⟨t, ht, e⟩)
    · exact ⟨s, by simp, e⟩
    · exact ⟨t, by simp [ht], e⟩
theorem MapB.congr {P : Program} {k e : TypeId} {w : World} {b n : Nat} {S T : Lit → Prop} (h : MapB P k e w b n S) (hst : ∀ x, T x ↔ S x) : MapB P k e w b n T := by
  obtain ⟨D, h1, h2, h3⟩ := h
  exact ⟨D, h1, h2, fun x => ⟨fun h => (h3 x).1 ((hst x).1 h), fun h => (h3 x).2 fun h' => h ((hst x).2 h')⟩⟩

theorem MapI.update {P : Program} {w : World} {b n : Nat} {F G : Lit → Option Int} {k e t : TypeId} {kl : Lit} (hown : MapI P k e w b n F) (KP : Keyed P k) (ht : P.underlying t = some (.map k e)) (he : P.underlying e = some (.int .i64)) (hn : n < maxLen) {key : Value} {c : Int} (hc : (Lit.int .i64 c).wf = true) (hkey : keyOf P k key = some kl) (hkl : WideAt.IsKeyLit kl) (hG : G kl = some c ∧ ∀ x, x ≠ kl → G x = F x) :
    ∃ w', (Instr.mapUpdate t (.map (some b)) key (.int .i64 c)).run P w = .ok () w' ∧ MapI P k e w' b (n + 1) G ∧ w.grownBy w' (some b) := by
  obtain ⟨D, h1, h2, h3⟩ := hown
  obtain ⟨w', hrun, r1, r2⟩ := h1.update KP ht hn hkey (plainElem_int he hc)
  refine ⟨w', hrun, ⟨_, r1, h2.put _ _, fun y => ?_⟩, r2⟩
  by_cases hy : y = kl
  · subst hy
    rw [hG.1]
    exact ⟨has_put_same h2 hkl _, atKey_put_same h2 hkl _ _⟩
  · rw [hG.2 y hy, has_put_other hy, atKey_put_other hy]
    exact h3 y
theorem MapI.room {P : Program} {k e : TypeId} {w : World} {b n m : Nat} {F : Lit → Option Int} (h : MapI P k e w b n F) (hn : n ≤ m) : MapI P k e w b m F := by
  obtain ⟨D, ⟨es, clock, h1, h2, h3, h4⟩, h5⟩ := h
  exact ⟨D, ⟨es, clock, h1, h2, by omega, h4⟩, h5⟩
theorem wf_i64 {n : Int} (h : -9223372036854775808 ≤ n ∧ n ≤ 9223372036854775807) : (Lit.int .i64 n).wf = true := by
  simp [Lit.wf, IntKind.min, IntKind.max, IntKind.signed, IntKind.bits]; omega
/-- What the clock's map tells. -/
def ckF (ts : List Tm) (x : Lit) : Option Int := match x with
  | .string l => (ts.find? fun t => decide (t.name.1.data.toList = l)).map fun t => (limI t.time).1
  | _ => none
theorem ck_pred (s : Str) : (fun t : Tm => decide (t.name.1.data.toList = s.1.data.toList)) = fun t : Tm => decide (t.name = s) := by
  funext t
  rw [Bool.eq_iff_iff, decide_eq_true_iff, decide_eq_true_iff]
  exact ⟨fun h => litS_inj (show litS t.name = litS s by unfold litS; rw [h]), fun h => by rw [h]⟩
theorem ck_at (ts : List Tm) (s : Str) : ckF ts (litS s) = (ts.find? fun t => decide (t.name = s)).map fun t => (limI t.time).1 := by
  unfold litS ckF
  simp only
  rw [ck_pred]
theorem ck_time (ts : List Tm) (s : Str) : clockT ts s = (ckF ts (litS s)).getD (medT ts) := by
  rw [ck_at]
  unfold clockT timeT
  cases ts.find? fun t => decide (t.name = s) <;> rfl
theorem ck_more {ts : List Tm} {t : Tm} {x : Lit} (hx : x ≠ litS t.name) : ckF (ts ++ [t]) x = ckF ts x := by
  unfold ckF
  cases x with
  | string l =>
    simp only
    rw [List.find?_append]
    have e : ¬ t.name.1.data.toList = l := fun e => hx (by unfold litS; rw [e])
    have h2 : ([t] : List Tm).find? (fun t => decide (t.name.1.data.toList = l)) = none := by rw [List.find?_cons_of_neg (by simpa using e)]; rfl
    rw [h2, Option.or_none]
  | _ => rfl
theorem ck_same {ts : List Tm} {t : Tm} : ckF (ts ++ [t]) (litS t.name) = some ((ckF ts (litS t.name)).getD (limI t.time).1) := by
  rw [ck_at, ck_at, List.find?_append]
  cases ts.find? fun u => decide (u.name = t.name) with
  | some v => rfl
  | none =>
    have h2 : ([t] : List Tm).find? (fun u => decide (u.name = t.name)) = some t := List.find?_cons_of_pos (by simp)
    rw [h2]
    rfl
theorem ck_new {ts : List Tm} {t : Tm} (h : ckF ts (litS t.name) = none) : ckF (ts ++ [t]) (litS t.name) = some (limI t.time).1 ∧ ∀ y, y ≠ litS t.name → ckF (ts ++ [t]) y = ckF ts y :=
  ⟨by rw [ck_same, h]; rfl, fun _ hy => ck_more hy⟩
theorem ck_old {ts : List Tm} {t : Tm} {v : Int} (h : ckF ts (litS t.name) = some v) (y : Lit) : ckF (ts ++ [t]) y = ckF ts y := by
  by_cases e : y = litS t.name
  · rw [e, ck_same, h]; rfl
  · exact ck_more e
/-- The function that the clock returns: a map of times and the median, each in its variable's block, below a block. -/
def Clk (w : World) (B : Nat) (v : Value) (ts : List Tm) : Prop :=
  ∃ b3 m n b8 : Nat, v = .func (.func 47) #[] #[.pointer (some ⟨b3, 0, none⟩), .pointer (some ⟨b8, 0, none⟩)] ∧ w.cell? ⟨b3, 0, none⟩ = some (.map (some m)) ∧ w.cell? ⟨b8, 0, none⟩ = some (.int .i64 (medT ts)) ∧ MapI Tryz.prog 9 3 w m n (ckF ts) ∧ b3 < B ∧ b8 < B ∧ m < B
theorem Clk.below {w w' : World} {B C : Nat} {v : Value} {ts : List Tm} (h : Clk w B v ts) (hb : Below C w w') (hB : B ≤ C) : Clk w' B v ts := by
  obtain ⟨b3, m, n, b8, e, h1, h2, h3, h4, h5, h6⟩ := h
  exact ⟨b3, m, n, b8, e, (hb.cell (p := ⟨b3, 0, none⟩) (show b3 < C by omega)).trans h1, (hb.cell (p := ⟨b8, 0, none⟩) (show b8 < C by omega)).trans h2, h3.keep hb (by omega), h4, h5, h6⟩
theorem Clk.more {w : World} {B B' : Nat} {v : Value} {ts : List Tm} (h : Clk w B v ts) (hB : B ≤ B') : Clk w B' v ts := by
  obtain ⟨b3, m, n, b8, e, h1, h2, h3, h4, h5, h6⟩ := h
  exact ⟨b3, m, n, b8, e, h1, h2, h3, by omega, by omega, by omega⟩
set_option maxRecDepth 100000 in
set_option maxHeartbeats 2000000 in
theorem clk_any (b3 m n b8 : Nat) (ts : List Tm) (s : Str) (hs : s.1.size ≤ maxLen) (w : World) (h1 : w.cell? ⟨b3, 0, none⟩ = some (.map (some m))) (h2 : w.cell? ⟨b8, 0, none⟩ = some (.int .i64 (medT ts))) (h3 : MapI Tryz.prog 9 3 w m n (ckF ts)) :
    Calls Tryz.prog 47 #[.string s.1, .pointer (some ⟨b3, 0, none⟩), .pointer (some ⟨b8, 0, none⟩)] w fun e w' => e = .returned (.int .i64 (clockT ts s)) ∧ w = w' := by
  have hmp := Lib.hid h3
  have hck := ck_time ts s
  generalize medT ts = M at h2 hck
  clear h3
  rcases hc : ckF ts (litS s) with _ | v
  · have hat := Lib.hid hc
    have hf : Hid (clockT ts s = M) := Lib.hid (by rw [hck, hc]; rfl)
    clear hck hc
    generalize clockT ts s = R at hf ⊢
    go_enter Tryz.func47, Tryz.ntmps47
    go_wp2_with (at_lookup; refine wpList_look_mapi rfl (.tmp 8) (.tmp 9) 72 rfl 9 3 (Go.Maps.string_keyed Tryz.underlying9) Tryz.underlying72 Tryz.underlying3 (by kernel_rfl) m n (ckF ts) rfl hmp.out _ (litS s) rfl (Go.WideMaps.keyOf_string_mk Tryz.underlying9 hs) none hat.out ?_)
    go_ret
    exact ⟨by rw [hf.out]; rfl, rfl⟩
  · have hat := Lib.hid hc
    have hf : Hid (clockT ts s = v) := Lib.hid (by rw [hck, hc]; rfl)
    clear hck hc
    generalize clockT ts s = R at hf ⊢
    go_enter Tryz.func47, Tryz.ntmps47
    go_wp2_with (at_lookup; refine wpList_look_mapi rfl (.tmp 8) (.tmp 9) 72 rfl 9 3 (Go.Maps.string_keyed Tryz.underlying9) Tryz.underlying72 Tryz.underlying3 (by kernel_rfl) m n (ckF ts) rfl hmp.out _ (litS s) rfl (Go.WideMaps.keyOf_string_mk Tryz.underlying9 hs) (some v) hat.out ?_)
    go_ret
    exact ⟨by rw [hf.out]; rfl, rfl⟩
theorem clk_call {w : World} {B : Nat} {v : Value} {ts : List Tm} (h : Clk w B v ts) : ∃ b3 b8 : Nat, v = .func (.func 47) #[] #[.pointer (some ⟨b3, 0, none⟩), .pointer (some ⟨b8, 0, none⟩)] ∧ b3 < B ∧ b8 < B ∧ ∀ (s : Str) (W : World), s.1.size ≤ maxLen → Below B w W → Calls Tryz.prog 47 #[.string s.1, .pointer (some ⟨b3, 0, none⟩), .pointer (some ⟨b8, 0, none⟩)] W fun e w' => e = .returned (.int .i64 (clockT ts s)) ∧ W = w' := by
  obtain ⟨b3, m, n, b8, e, h1, h2, h3, h4, h5, h6⟩ := h
  exact ⟨b3, b8, e, h4, h5, fun s W hs hb => clk_any b3 m n b8 ts s hs W ((hb.cell (p := ⟨b3, 0, none⟩) h4).trans h1) ((hb.cell (p := ⟨b8, 0, none⟩) h5).trans h2) (h3.keep hb h6)⟩

set_option maxRecDepth 100000 in
set_option maxHeartbeats 4000000 in
theorem clock_any (A : Option Addr) (c : Nat) (l : List Tm) (w : World) (hr : Rw tmE 2 w w.heap.size A l) (hn : l.length ≤ 1000000) (hs : ∀ x ∈ l, x.name.1.size ≤ 1000000) :
    Calls Tryz.prog 25 #[.slice A l.length c] w fun e w' => ∃ v, e = .returned v ∧ Clk w' w'.heap.size v l ∧ Below w.heap.size w w' := by
  have hmd : Hid (∀ W, Below w.heap.size w W → Calls Tryz.prog 10 #[.slice A l.length c] W fun e w' => e = .returned (.int .i64 (medT l)) ∧ Below W.heap.size W w') := Lib.hid fun W hb => median_any A c l W ((hr.below hb (Nat.le_refl _)).more hb.size) hn
  have hli : Hid (∀ (n : I64) (W : World), Calls Tryz.prog 21 #[.int .i64 n.1] W fun e w' => e = .returned (.int .i64 (limI n).1) ∧ Below W.heap.size W w') := Lib.hid fun n W => (limited_any n W).mono fun e w' ⟨h1, h2⟩ => ⟨h1, h2 ▸ Below.refl _ _⟩
  have hrd := Lib.hid hr
  have hsz := Lib.hid hs
  clear hr hs
  have hmm := @run_makeMap Tryz.prog
  go_enter Tryz.func25, Tryz.ntmps25
  go_wp2_with fail
  clear hmm
  go_loopw [12] (fun vi wr => ∃ k : Nat, k ≤ l.length ∧ vi = .int .i64 (k : Int) ∧ MapI Tryz.prog 9 3 wr w.heap.size k (ckF (l.take k)) ∧ wr.cell? ⟨w.heap.size + 1, 0, none⟩ = some (.map (some w.heap.size)) ∧ w.heap.size + 1 < wr.heap.size ∧ Below w.heap.size w wr) (fun vi _ => l.length - (intOf vi).toNat)
  case atStart => exact ⟨0, Nat.zero_le _, rfl, ((MapI.made w Tryz.prog 9 3).keep (B := w.heap.size + 1) ((Below.refl _ _).alloc (by simp) _) (by omega)).congr (fun x => by cases x <;> rfl), by go_simp, by simp, (by repeat (first | (with_reducible exact Below.refl _ _) | (with_reducible refine Below.drew ?_) | (with_reducible refine below_drewN ?_ _) | ((with_reducible refine Below.alloc ?_ ?_ _); rotate_left; focus ((try simp) <;> omega)) | ((with_reducible refine Below.setCell ?_ ?_ _); rotate_left; focus ((try simp) <;> omega)) | ((with_reducible refine Below.trans ?_ (Below.mono (by assumption) ?_)); rotate_left; focus ((try simp) <;> omega))))⟩
  case round =>
    obtain ⟨k, hk, rfl, hmp, c3, hz3, hbw⟩ := hrel
    have hz := hbw.size
    have hmlt := hmp.lt
    by_cases hkl : k < l.length
    · obtain ⟨x, hx⟩ := get_some hkl
      obtain ⟨g, o, rfl, hg, hq⟩ := hrd.out (by omega)
      have q0 := (hbw.cell (p := ⟨g, o + k * 2 + 0, none⟩) hg).trans (hq k x hx 0 (.string x.name.1) rfl)
      rw [Nat.add_zero] at q0
      have q1 := (hbw.cell (p := ⟨g, o + k * 2 + 1, none⟩) hg).trans (hq k x hx 1 (.int .i64 x.time.1) rfl)
      clear hq
      have i0 : (0 : Int) ≤ (k : Int) := by omega
      have i1 : (k : Int) < (l.length : Int) := by omega
      have hgr : g < wr.heap.size := by omega
      have hnl : x.name.1.size ≤ maxLen := by have := hsz.out x (List.mem_of_getElem? hx); simp only [maxLen]; omega
      have hns : l.take (k + 1) = l.take k ++ [x] := by rw [List.take_add_one, hx]; rfl
      rcases hh : ckF (l.take k) (litS x.name) with _ | v
      · have hat := Lib.hid hh
        have hnew := ck_new hh
        rw [← hns] at hnew
        replace hnew := Lib.hid hnew
        replace hns := Lib.hid hns
        replace hx := Lib.hid hx
        replace hmp := Lib.hid hmp
        clear hh
        go_upto_region 7 with (at_lookup; refine wpList_look_mapi rfl (.tmp 17) (.tmp 19) 72 rfl 9 3 (Go.Maps.string_keyed Tryz.underlying9) Tryz.underlying72 Tryz.underlying3 (by kernel_rfl) w.heap.size k (ckF (l.take k)) rfl (hmp.out.keep (B := wr.heap.size) (by repeat (first | (with_reducible exact Below.refl _ _) | (with_reducible refine Below.drew ?_) | (with_reducible refine below_drewN ?_ _) | ((with_reducible refine Below.alloc ?_ ?_ _); rotate_left; focus ((try simp) <;> omega)) | ((with_reducible refine Below.setCell ?_ ?_ _); rotate_left; focus ((try simp) <;> omega)) | ((with_reducible refine Below.trans ?_ (Below.mono (by assumption) ?_)); rotate_left; focus ((try simp) <;> omega)))) hmlt) _ (litS x.name) rfl (Go.WideMaps.keyOf_string_mk Tryz.underlying9 hnl) none hat.out ?_)
        go_region_held3 (fun w' => w'.cell? ⟨wr.heap.size, 0, none⟩ = some (.string x.name.1) ∧ w'.cell? ⟨wr.heap.size, 1, none⟩ = some (.int .i64 x.time.1) ∧ w'.cell? ⟨w.heap.size + 1, 0, none⟩ = some (.map (some w.heap.size))) (first | (go_keep; done) | (go_simp; done) | go_keep)
          (first
          | (go_at_call 21; go_must (refine (hli.out _ _).mono ?_; rintro e w2 ⟨rfl, hb2⟩; have hz2 := hb2.size; (try simp at hz2); obtain ⟨hc2, hf2⟩ := blk_at hb2 wr.heap.size (by (try simp) <;> omega); obtain ⟨hd2, he2⟩ := blk_at hb2 (w.heap.size + 1) (by (try simp) <;> omega); obtain ⟨w4, hrun, hmp4, hg4⟩ := MapI.update (t := 72) (hmp.out.keep (show Below wr.heap.size wr w2 from (by repeat (first | (with_reducible exact Below.refl _ _) | (with_reducible refine Below.drew ?_) | (with_reducible refine below_drewN ?_ _) | ((with_reducible refine Below.alloc ?_ ?_ _); rotate_left; focus ((try simp) <;> omega)) | ((with_reducible refine Below.setCell ?_ ?_ _); rotate_left; focus ((try simp) <;> omega)) | ((with_reducible refine Below.trans ?_ (Below.mono (by assumption) ?_)); rotate_left; focus ((try simp) <;> omega))))) (by omega)) (Go.Maps.string_keyed Tryz.underlying9) Tryz.underlying72 Tryz.underlying3 (by simp only [maxLen]; omega) (wf_i64 (limI x.time).2) (Go.WideMaps.keyOf_string_mk Tryz.underlying9 hnl) trivial hnew.out; have hz4 := hg4.size; obtain ⟨e4, f4⟩ := grown_blk hg4 (w.heap.size + 1) (by omega) (by simp); obtain ⟨e5, f5⟩ := grown_blk hg4 wr.heap.size (by omega) (by simp; omega); replace hmp4 := Lib.hid hmp4; have hbt : Hid (Below w.heap.size wr w4) := Lib.hid (Below.grown (show Below w.heap.size wr w2 from Below.mono (B := wr.heap.size) (by repeat (first | (with_reducible exact Below.refl _ _) | (with_reducible refine Below.drew ?_) | (with_reducible refine below_drewN ?_ _) | ((with_reducible refine Below.alloc ?_ ?_ _); rotate_left; focus ((try simp) <;> omega)) | ((with_reducible refine Below.setCell ?_ ?_ _); rotate_left; focus ((try simp) <;> omega)) | ((with_reducible refine Below.trans ?_ (Below.mono (by assumption) ?_)); rotate_left; focus ((try simp) <;> omega)))) (by omega)) hg4 (by omega) (fun q hq => by simp at hq; omega))))
          | fail "none")
        all_goals go_wp2_with fail
        all_goals go_roundw
        case rel => exact ⟨k + 1, hkl, by go_num, hmp4.out, by go_simp, by omega, hbw.trans hbt.out⟩
        case measure => simp [intOf]; omega
      · have hat := Lib.hid hh
        have hold := ck_old hh
        rw [← hns] at hold
        replace hold := Lib.hid hold
        replace hns := Lib.hid hns
        replace hx := Lib.hid hx
        replace hmp := Lib.hid hmp
        clear hh
        go_wp2_with (at_lookup; refine wpList_look_mapi rfl (.tmp 17) (.tmp 19) 72 rfl 9 3 (Go.Maps.string_keyed Tryz.underlying9) Tryz.underlying72 Tryz.underlying3 (by kernel_rfl) w.heap.size k (ckF (l.take k)) rfl (hmp.out.keep (B := wr.heap.size) (by repeat (first | (with_reducible exact Below.refl _ _) | (with_reducible refine Below.drew ?_) | (with_reducible refine below_drewN ?_ _) | ((with_reducible refine Below.alloc ?_ ?_ _); rotate_left; focus ((try simp) <;> omega)) | ((with_reducible refine Below.setCell ?_ ?_ _); rotate_left; focus ((try simp) <;> omega)) | ((with_reducible refine Below.trans ?_ (Below.mono (by assumption) ?_)); rotate_left; focus ((try simp) <;> omega)))) hmlt) _ (litS x.name) rfl (Go.WideMaps.keyOf_string_mk Tryz.underlying9 hnl) (some v) hat.out ?_)
        go_roundw
        case rel => exact ⟨k + 1, hkl, by go_num, ((hmp.out.keep (B := wr.heap.size) (show Below wr.heap.size wr _ from (by repeat (first | (with_reducible exact Below.refl _ _) | (with_reducible refine Below.drew ?_) | (with_reducible refine below_drewN ?_ _) | ((with_reducible refine Below.alloc ?_ ?_ _); rotate_left; focus ((try simp) <;> omega)) | ((with_reducible refine Below.setCell ?_ ?_ _); rotate_left; focus ((try simp) <;> omega)) | ((with_reducible refine Below.trans ?_ (Below.mono (by assumption) ?_)); rotate_left; focus ((try simp) <;> omega))))) hmlt).congr hold.out).room (by omega), by go_simp, by (try simp) <;> omega, (by repeat (first | (with_reducible exact Below.refl _ _) | (with_reducible refine Below.drew ?_) | (with_reducible refine below_drewN ?_ _) | ((with_reducible refine Below.alloc ?_ ?_ _); rotate_left; focus ((try simp) <;> omega)) | ((with_reducible refine Below.setCell ?_ ?_ _); rotate_left; focus ((try simp) <;> omega)) | ((with_reducible refine Below.trans ?_ (Below.mono (by assumption) ?_)); rotate_left; focus ((try simp) <;> omega))))⟩
        case measure => simp [intOf]; omega
    · have i1 : ¬ (k : Int) < (l.length : Int) := by omega
      obtain rfl : k = l.length := by omega
      rw [List.take_length] at hmp
      replace hmp := Lib.hid hmp
      obtain ⟨M, hM⟩ : ∃ M, medT l = M := ⟨_, rfl⟩
      rw [hM] at hmd
      replace hM := Lib.hid hM
      go_wp2_with (go_at_call 10; go_must (refine (hmd.out _ hbw).mono ?_; rintro e w5 ⟨rfl, hb5⟩; have hz5 := hb5.size; obtain ⟨hc5, hf5⟩ := blk_at hb5 (w.heap.size + 1) (by omega)))
      go_ret
      refine ⟨_, rfl, ⟨w.heap.size + 1, w.heap.size, l.length, w5.heap.size, rfl, ?_, ?_, hmp.out.keep (B := wr.heap.size) (by repeat (first | (with_reducible exact Below.refl _ _) | (with_reducible refine Below.drew ?_) | (with_reducible refine below_drewN ?_ _) | ((with_reducible refine Below.alloc ?_ ?_ _); rotate_left; focus ((try simp) <;> omega)) | ((with_reducible refine Below.setCell ?_ ?_ _); rotate_left; focus ((try simp) <;> omega)) | ((with_reducible refine Below.trans ?_ (Below.mono (by assumption) ?_)); rotate_left; focus ((try simp) <;> omega)))) hmlt, ?_, ?_, ?_⟩, (by repeat (first | (with_reducible exact Below.refl _ _) | (with_reducible refine Below.drew ?_) | (with_reducible refine below_drewN ?_ _) | ((with_reducible refine Below.alloc ?_ ?_ _); rotate_left; focus ((try simp) <;> omega)) | ((with_reducible refine Below.setCell ?_ ?_ _); rotate_left; focus ((try simp) <;> omega)) | ((with_reducible refine Below.trans ?_ (Below.mono (by assumption) ?_)); rotate_left; focus ((try simp) <;> omega))))⟩
      · rw [World.cell?_alloc_lt _ _ _ (by show w.heap.size + 1 < _; omega)]
        exact (hc5 0).trans c3
      · rw [hM.out]; go_simp
      all_goals (try simp) <;> omega
set_option maxRecDepth 100000 in
set_option maxHeartbeats 4000000 in
theorem load_any (A B : Option Addr) (c d : Nat) (l : List Str) (ts : List Tm) (w : World) (hr : Rw sE 1 w w.heap.size A l) (hl : l.length ≤ 1000) (hls : ∀ s ∈ l, s.1.size ≤ maxLen) (ht : Rw tmE 2 w w.heap.size B ts) (hn : ts.length ≤ 1000000) (hs : ∀ x ∈ ts, x.name.1.size ≤ 1000000) :
    Calls Tryz.prog 12 #[.slice A l.length c, .slice B ts.length d] w fun e w' => e = .returned (.int .i64 (loadT l ts)) ∧ Below w.heap.size w w' := by
  have hck : Hid (∀ W, Below w.heap.size w W → Calls Tryz.prog 25 #[.slice B ts.length d] W fun e w' => ∃ v, e = .returned v ∧ Clk w' w'.heap.size v ts ∧ Below W.heap.size W w') := Lib.hid fun W hb => clock_any B d ts W ((ht.below hb (Nat.le_refl _)).more hb.size) hn hs
  have hti := Lib.hid (time_in ts)
  have hlt := Lib.hid (load_take l ts)
  have hrd := Lib.hid hr
  have hfin : Hid (sumT (clockT ts) l = loadT l ts) := Lib.hid rfl
  have hsn := Lib.hid (fun (k : Nat) (s : Str) (h : l[k]? = some s) => sumt_take (t := clockT ts) h)
  replace hls := Lib.hid hls
  clear hr ht hs
  obtain ⟨R, hR⟩ : ∃ R, loadT l ts = R := ⟨_, rfl⟩
  rw [hR] at hfin ⊢
  replace hR := Lib.hid hR
  go_enter Tryz.func12, Tryz.ntmps12
  go_wp2_with (go_at_call 25; go_must (refine (hck.out _ (Below.refl _ _)).mono ?_; rintro e w2 ⟨v2, rfl, hc2, hb2⟩))
  have hz2 := hb2.size
  obtain ⟨b3, b8, rfl, hb3, hb8, htm⟩ := clk_call hc2
  replace htm := Lib.hid htm
  clear hc2
  generalize clockT ts = ck at htm hti hlt hfin hsn
  go_loop [6, 13] (fun vs vi => ∃ k : Nat, k ≤ l.length ∧ vi = .int .i64 (k : Int) ∧ vs = .int .i64 (sumT ck (l.take k))) (fun _ vi => l.length - (intOf vi).toNat)
  case atStart => exact ⟨0, Nat.zero_le _, rfl, rfl⟩
  case round =>
    obtain ⟨k, hk, rfl, rfl⟩ := hrel
    by_cases hkl : k < l.length
    · obtain ⟨s, hs⟩ := get_some hkl
      obtain ⟨g, o, rfl, hg, hq⟩ := hrd.out (by omega)
      have q0 := (hb2.cell (p := ⟨g, o + k * 1 + 0, none⟩) hg).trans (hq k s hs 0 (.string s.1) rfl)
      rw [Nat.add_zero, Nat.mul_one] at q0
      clear hq
      have i0 : (0 : Int) ≤ (k : Int) := by omega
      have i1 : (k : Int) < (l.length : Int) := by omega
      have hn1 := hsn.out k s hs
      obtain ⟨l1, l2⟩ := hlt.out k (by omega)
      obtain ⟨l3, l4⟩ := hti.out s
      have hts0 := htm.out s w2 (hls.out s (List.mem_of_getElem? hs)) (Below.refl _ _)
      obtain ⟨C, hC⟩ : ∃ C, ck s = C := ⟨_, rfl⟩
      obtain ⟨S, hS⟩ : ∃ S, sumT ck (l.take k) = S := ⟨_, rfl⟩
      rw [hC] at hts0 hn1 l3 l4
      rw [hS] at hn1 l1 l2 ⊢
      have hts := Lib.hid hts0
      clear hts0
      replace hn1 := Lib.hid hn1
      replace hC := Lib.hid hC
      replace hS := Lib.hid hS
      replace hs := Lib.hid hs
      go_wp2_with (first
        | (go_at_call 47; go_must (refine hts.out.mono ?_; rintro e w4 ⟨rfl, rfl⟩))
        | (go_at_call 26; go_must (refine (sum_small _ _ l1 l3 (by omega) _).mono ?_; rintro e w4 ⟨rfl, rfl⟩)))
      go_round
      case rel => exact ⟨k + 1, hkl, by go_num, by rw [hn1.out]⟩
      case measure => simp [intOf]; omega
    · have i1 : ¬ (k : Int) < (l.length : Int) := by omega
      have hf : Hid (sumT ck (l.take k) = R) := Lib.hid (by rw [List.take_of_length_le (by omega)]; exact hfin.out)
      go_wp2_with fail
      go_ret
      exact ⟨ret_int hf.out, hb2⟩
end Go.Proofs.YtdjepnilmgembaaGreatDoor
