/-
  The walks of groups: the laws' do and model.
-/
import Derived.Test.YtbellobjajnlkaaDoorCon34
import Derived.Test.YtbellobjajnlkaaDoorCon37



namespace Go.Proofs.YtbellobjajnlkaaDoor
open Go.RowKit

/-- A block that holds no string is no row of jobs or groups. -/
def NoStr (w : World) (b : Nat) : Prop := ∀ o s, w.cell? ⟨b, o, none⟩ ≠ some (.string s)
theorem rw_nostr {α : Type} {enc : α → List Value} {k : Nat} {w w' : World} {B : Nat} {A : Option Addr} {l : List α} {b : Nat} (h : Rw enc k w B A l) (h0 : ∀ x : α, ∃ s, (enc x)[0]? = some (.string s)) (hb : NoStr w b) (hw : ∀ p : Addr, p.block ≠ b → w'.cell? p = w.cell? p) : Rw enc k w' B A l := fun hn => by
  obtain ⟨g, o, e, hg, hc⟩ := h hn
  have hne : g ≠ b := by
    obtain ⟨x, hx⟩ := get_some hn
    obtain ⟨s, hs⟩ := h0 x
    have := hc 0 x hx 0 _ hs
    rintro rfl
    exact hb _ _ this
  exact ⟨g, o, e, hg, fun i x hx j u hu => (hw ⟨g, _, none⟩ hne).trans (hc i x hx j u hu)⟩
theorem rwg_nostr {w w' : World} {B : Nat} {A : Option Addr} {l : List Grp} {b : Nat} (h : RwG w B A l) (hb : NoStr w b) (hw : ∀ p : Addr, p.block ≠ b → w'.cell? p = w.cell? p) : RwG w' B A l :=
  ⟨rw_nostr h.row (fun _x => ⟨_, rfl⟩) hb hw, fun x hx => ⟨(h.labs x hx).1, (h.labs x hx).2.1, rw_nostr (h.labs x hx).2.2 (fun _x => ⟨_, rfl⟩) hb hw⟩⟩
theorem fin2_other (w : World) (b : Nat) (u0 u1 : Value) (p : Addr) (hp : p.block ≠ b) : (fin2 w b u0 u1).cell? p = w.cell? p := by
  unfold fin2
  rw [World.cell?_setCell_other _ _ _ _ (fun e => hp (by rw [← e])), World.cell?_setCell_other _ _ _ _ (fun e => hp (by rw [← e]))]
theorem St.fin2 {w : World} {A : Option Addr} {c : Nat} {L : List Grp} {gs : List G} (h : St w A c L gs) {b : Nat} (hb : NoStr w b) (u0 u1 : Value) : St (fin2 w b u0 u1) A c L gs :=
  ⟨(rwg_nostr h.row hb (fin2_other w b u0 u1)).more (Nat.le_of_eq (fin2_size w b u0 u1).symm), h.le, h.eq⟩
theorem rw_fin2 {w : World} {A : Option Addr} {l : List JRef} (h : Rw jRefE 2 w w.heap.size A l) {b : Nat} (hb : NoStr w b) (u0 u1 : Value) : Rw jRefE 2 (fin2 w b u0 u1) (fin2 w b u0 u1).heap.size A l :=
  (rw_nostr h (fun _x => ⟨_, rfl⟩) hb (fin2_other w b u0 u1)).more (Nat.le_of_eq (fin2_size w b u0 u1).symm)
theorem nostr_adm {w : World} (u : Bool) (A : Option Addr) (n c : Nat) (T : TypeId) : NoStr (w.alloc (.cells #[.bool u, .slice A n c] T)) w.heap.size := fun o s h => by
  rw [cell_of_row _ _ _ _ _ (0, 0) (heap_alloc_new w _)] at h
  match o, h with
  | 0, h => simp at h
  | 1, h => simp at h
  | o + 2, h => simp at h
theorem NoStr.keep {w w' : World} {b : Nat} (h : NoStr w b) (hb : Below w.heap.size w w') (hl : b < w.heap.size) : NoStr w' b := fun o s e => h o s ((hb.cell (p := ⟨b, o, none⟩) hl).symm.trans e)

def Mov.ref (m : Mov) : JRef := ⟨m.run, m.job⟩
def doL (gs : List G) (m : Mov) : List G := if m.kind.1 = 0 then enterL gs m.name m.ref m.policy.1 else if m.kind.1 = 1 then leaveL gs m.ref else if m.kind.1 = 2 then startL gs m.name m.ref else gs
def doE (gs : List G) (m : Mov) : Int := if m.kind.1 = 0 then enterE gs m.name m.ref m.policy.1 else if m.kind.1 = 1 then 0 else if m.kind.1 = 2 then startE gs m.name m.ref else 0
def doRun (gs : List G) (m : Mov) : Bool := if m.kind.1 = 0 then enterRun gs m.name m.ref m.policy.1 else false
def doCan (gs : List G) (m : Mov) : List JRef := if m.kind.1 = 0 then enterCan gs m.name m.ref m.policy.1 else []
set_option maxRecDepth 100000 in
set_option maxHeartbeats 8000000 in
theorem do_any {W0 : World} {A : Option Addr} {c : Nat} {L : List Grp} {gs : List G} (w : World) (h : St W0 A c L gs) (hb : Below W0.heap.size W0 w) (hm : MildG gs) (hG : Glob w) (m : Mov) (hp : m.name.1.size < 4294967281) (hs : shortR m.ref) :
    Calls Tryd.prog 27 #[.slice A L.length c, .agg #[.int .i64 m.kind.1, .string m.name.1, .string m.run.1, .string m.job.1, .int .i64 m.policy.1]] w (fun e w' => ∃ (A' : Option Addr) (c' : Nat) (l' : List Grp) (Ac : Option Addr) (Cc : Nat), e = .returned (.tuple #[.slice A' l'.length c', .agg #[.bool (doRun gs m), .slice Ac (doCan gs m).length Cc], .int .i64 (doE gs m)]) ∧ St w' A' c' l' (doL gs m) ∧ Rw jRefE 2 w' w'.heap.size Ac (doCan gs m) ∧ Below w.heap.size w w') := by
  have hns0 : Hid (NoStr ((w.alloc (.cells #[.int .i64 m.kind.1, .string m.name.1, .string m.run.1, .string m.job.1, .int .i64 m.policy.1] 31)).alloc (.cells #[.bool false, .slice none 0 0] 35)) (w.heap.size + 1)) := Lib.hid (by
    have h := nostr_adm (w := w.alloc (.cells #[.int .i64 m.kind.1, .string m.name.1, .string m.run.1, .string m.job.1, .int .i64 m.policy.1] 31)) false none 0 0 35
    rwa [World.size_alloc] at h)
  unfold doL doE doRun doCan
  by_cases h0 : m.kind.1 = 0
  · simp only [if_pos h0]
    rw [h0] at hns0 ⊢
    have hen : Hid (∀ W, Below w.heap.size w W → Calls Tryd.prog 14 #[.slice A L.length c, .string m.name.1, .agg #[.string m.run.1, .string m.job.1], .int .i64 m.policy.1] W fun e w' => ∃ (A' : Option Addr) (c' : Nat) (l' : List Grp) (Ac : Option Addr) (Cc : Nat), e = .returned (.tuple #[.slice A' l'.length c', .agg #[.bool (enterRun gs m.name m.ref m.policy.1), .slice Ac (enterCan gs m.name m.ref m.policy.1).length Cc], .int .i64 (enterE gs m.name m.ref m.policy.1)]) ∧ St w' A' c' l' (enterL gs m.name m.ref m.policy.1) ∧ Rw jRefE 2 w' w'.heap.size Ac (enterCan gs m.name m.ref m.policy.1) ∧ Below W.heap.size W w') := Lib.hid fun W hbW => enter_st (h.keep hb) hbW hm (hG.keep hbW) m.name m.ref m.policy hp hs
    generalize enterRun gs m.name m.ref m.policy.1 = R at *
    generalize enterE gs m.name m.ref m.policy.1 = E at *
    generalize enterL gs m.name m.ref m.policy.1 = G1 at *
    generalize enterCan gs m.name m.ref m.policy.1 = C at *
    clear h hb hm hG hs
    replace h0 := Lib.hid h0
    go_enter Tryd.func27, Tryd.ntmps27
    go_wp2_with (go_at_call 14; go_must (refine (hen.out _ (by repeat (first | (with_reducible exact Below.refl _ _) | (with_reducible refine Below.drew ?_) | (with_reducible refine below_drewN ?_ _) | ((with_reducible refine Below.alloc ?_ ?_ _); rotate_left; focus ((try simp) <;> omega)) | ((with_reducible refine Below.setCell ?_ ?_ _); rotate_left; focus ((try simp) <;> omega)) | ((with_reducible refine Below.trans ?_ (Below.mono (by assumption) ?_)); rotate_left; focus ((try simp) <;> omega))))).mono ?_; rintro e w1 ⟨A1, c1, L1, Ac1, Cc1, rfl, hst1, hcr1, hb1⟩; have hz1 := hb1.size; (try simp at hz1); obtain ⟨ua, va⟩ := blk_at hb1 (w.heap.size + 1) (by (try simp) <;> omega); have hnsR := Lib.hid (NoStr.keep hns0.out hb1 (by (try simp) <;> omega)); have hstR := Lib.hid hst1; have hcrR := Lib.hid hcr1; clear hcr1; clear hst1))
    have hns : NoStr w1 (w.heap.size + 1) := hnsR.out
    have t0 : (w1).cell? ⟨w.heap.size + 1, 0, none⟩ = some (.bool false) := by go_simp
    have t1 : (w1).cell? ⟨w.heap.size + 1, 1, none⟩ = some (.slice none 0 0) := by go_simp
    have hBw : Below w.heap.size w w1 := (by repeat (first | (with_reducible exact Below.refl _ _) | (with_reducible refine Below.drew ?_) | (with_reducible refine below_drewN ?_ _) | ((with_reducible refine Below.alloc ?_ ?_ _); rotate_left; focus ((try simp) <;> omega)) | ((with_reducible refine Below.setCell ?_ ?_ _); rotate_left; focus ((try simp) <;> omega)) | ((with_reducible refine Below.trans ?_ (Below.mono (by assumption) ?_)); rotate_left; focus ((try simp) <;> omega))))
    obtain ⟨z0, z1⟩ := fin2_cells (u0 := .bool R) (u1 := .slice Ac1 C.length Cc1) t0 t1
    have hS9 := Lib.hid (St.fin2 hstR.out hns (.bool R) (.slice Ac1 C.length Cc1))
    have hC9 := Lib.hid (rw_fin2 hcrR.out hns (.bool R) (.slice Ac1 C.length Cc1))
    have hB9 := Lib.hid (hBw.trans (fin2_below (u0 := .bool R) (u1 := .slice Ac1 C.length Cc1) (show w.heap.size ≤ w.heap.size + 1 by omega)))
    change bodyPost _ _ _ _ _ (fin2 w1 (w.heap.size + 1) (.bool R) (.slice Ac1 C.length Cc1))
    generalize fin2 w1 (w.heap.size + 1) (.bool R) (.slice Ac1 C.length Cc1) = w9 at *
    exact bodyPost_ret (v := .tuple #[.slice A1 L1.length c1, .agg #[.bool R, .slice Ac1 C.length Cc1], .int .i64 E]) (by simp [results, Tryd.results27, go_sem, z0, z1]) rfl ⟨_, _, _, Ac1, Cc1, rfl, hS9.out, hC9.out, hB9.out⟩
  by_cases h1 : m.kind.1 = 1
  · simp only [if_neg h0, if_pos h1]
    rw [h1] at hns0 ⊢
    have hle : Hid (∀ W, Below w.heap.size w W → Calls Tryd.prog 23 #[.slice A L.length c, .agg #[.string m.run.1, .string m.job.1]] W fun e w' => ∃ (A' : Option Addr) (c' : Nat) (l' : List Grp), e = .returned (.slice A' l'.length c') ∧ St w' A' c' l' (leaveL gs m.ref) ∧ Below W.heap.size W w') := Lib.hid fun W hbW => leave_st (h.keep hb) hbW hm (hG.keep hbW) m.ref
    generalize leaveL gs m.ref = G1 at *
    clear h hb hm hG hs
    replace h0 := Lib.hid h0
    replace h1 := Lib.hid h1
    go_enter Tryd.func27, Tryd.ntmps27
    go_wp2_with (go_at_call 23; go_must (refine (hle.out _ (by repeat (first | (with_reducible exact Below.refl _ _) | (with_reducible refine Below.drew ?_) | (with_reducible refine below_drewN ?_ _) | ((with_reducible refine Below.alloc ?_ ?_ _); rotate_left; focus ((try simp) <;> omega)) | ((with_reducible refine Below.setCell ?_ ?_ _); rotate_left; focus ((try simp) <;> omega)) | ((with_reducible refine Below.trans ?_ (Below.mono (by assumption) ?_)); rotate_left; focus ((try simp) <;> omega))))).mono ?_; rintro e w1 ⟨A1, c1, L1, rfl, hst1, hb1⟩; have hz1 := hb1.size; (try simp at hz1); obtain ⟨ua, va⟩ := blk_at hb1 (w.heap.size + 1) (by (try simp) <;> omega); have hnsR := Lib.hid (NoStr.keep hns0.out hb1 (by (try simp) <;> omega)); have hstR := Lib.hid hst1; have hcrR : Hid (Rw jRefE 2 w1 w1.heap.size none []) := Lib.hid Rw.nil; clear hst1))
    have hns : NoStr w1 (w.heap.size + 1) := hnsR.out
    have t0 : (w1).cell? ⟨w.heap.size + 1, 0, none⟩ = some (.bool false) := by go_simp
    have t1 : (w1).cell? ⟨w.heap.size + 1, 1, none⟩ = some (.slice none 0 0) := by go_simp
    have hBw : Below w.heap.size w w1 := (by repeat (first | (with_reducible exact Below.refl _ _) | (with_reducible refine Below.drew ?_) | (with_reducible refine below_drewN ?_ _) | ((with_reducible refine Below.alloc ?_ ?_ _); rotate_left; focus ((try simp) <;> omega)) | ((with_reducible refine Below.setCell ?_ ?_ _); rotate_left; focus ((try simp) <;> omega)) | ((with_reducible refine Below.trans ?_ (Below.mono (by assumption) ?_)); rotate_left; focus ((try simp) <;> omega))))
    obtain ⟨z0, z1⟩ := fin2_cells (u0 := .bool false) (u1 := .slice none 0 0) t0 t1
    have hS9 := Lib.hid (St.fin2 hstR.out hns (.bool false) (.slice none 0 0))
    have hC9 := Lib.hid (rw_fin2 hcrR.out hns (.bool false) (.slice none 0 0))
    have hB9 := Lib.hid (hBw.trans (fin2_below (u0 := .bool false) (u1 := .slice none 0 0) (show w.heap.size ≤ w.heap.size + 1 by omega)))
    change bodyPost _ _ _ _ _ (fin2 w1 (w.heap.size + 1) (.bool false) (.slice none 0 0))
    generalize fin2 w1 (w.heap.size + 1) (.bool false) (.slice none 0 0) = w9 at *
    exact bodyPost_ret (v := .tuple #[.slice A1 L1.length c1, .agg #[.bool false, .slice none 0 0], .int .i64 0]) (by simp [results, Tryd.results27, go_sem, z0, z1]) rfl ⟨_, _, _, none, 0, rfl, hS9.out, hC9.out, hB9.out⟩
  by_cases h2 : m.kind.1 = 2
  · simp only [if_neg h0, if_neg h1, if_pos h2]
    rw [h2] at hns0 ⊢
    have hsa : Hid (∀ W, Below w.heap.size w W → Calls Tryd.prog 21 #[.slice A L.length c, .string m.name.1, .agg #[.string m.run.1, .string m.job.1]] W fun e w' => ∃ (A' : Option Addr) (c' : Nat) (l' : List Grp), e = .returned (.tuple #[.slice A' l'.length c', .int .i64 (startE gs m.name m.ref)]) ∧ St w' A' c' l' (startL gs m.name m.ref) ∧ Below W.heap.size W w') := Lib.hid fun W hbW => start_st (h.keep hb) hbW hm (hG.keep hbW) m.name m.ref
    generalize startE gs m.name m.ref = E at *
    generalize startL gs m.name m.ref = G1 at *
    clear h hb hm hG hs
    replace h0 := Lib.hid h0
    replace h1 := Lib.hid h1
    replace h2 := Lib.hid h2
    go_enter Tryd.func27, Tryd.ntmps27
    go_wp2_with (go_at_call 21; go_must (refine (hsa.out _ (by repeat (first | (with_reducible exact Below.refl _ _) | (with_reducible refine Below.drew ?_) | (with_reducible refine below_drewN ?_ _) | ((with_reducible refine Below.alloc ?_ ?_ _); rotate_left; focus ((try simp) <;> omega)) | ((with_reducible refine Below.setCell ?_ ?_ _); rotate_left; focus ((try simp) <;> omega)) | ((with_reducible refine Below.trans ?_ (Below.mono (by assumption) ?_)); rotate_left; focus ((try simp) <;> omega))))).mono ?_; rintro e w1 ⟨A1, c1, L1, rfl, hst1, hb1⟩; have hz1 := hb1.size; (try simp at hz1); obtain ⟨ua, va⟩ := blk_at hb1 (w.heap.size + 1) (by (try simp) <;> omega); have hnsR := Lib.hid (NoStr.keep hns0.out hb1 (by (try simp) <;> omega)); have hstR := Lib.hid hst1; have hcrR : Hid (Rw jRefE 2 w1 w1.heap.size none []) := Lib.hid Rw.nil; clear hst1))
    have hns : NoStr w1 (w.heap.size + 1) := hnsR.out
    have t0 : (w1).cell? ⟨w.heap.size + 1, 0, none⟩ = some (.bool false) := by go_simp
    have t1 : (w1).cell? ⟨w.heap.size + 1, 1, none⟩ = some (.slice none 0 0) := by go_simp
    have hBw : Below w.heap.size w w1 := (by repeat (first | (with_reducible exact Below.refl _ _) | (with_reducible refine Below.drew ?_) | (with_reducible refine below_drewN ?_ _) | ((with_reducible refine Below.alloc ?_ ?_ _); rotate_left; focus ((try simp) <;> omega)) | ((with_reducible refine Below.setCell ?_ ?_ _); rotate_left; focus ((try simp) <;> omega)) | ((with_reducible refine Below.trans ?_ (Below.mono (by assumption) ?_)); rotate_left; focus ((try simp) <;> omega))))
    obtain ⟨z0, z1⟩ := fin2_cells (u0 := .bool false) (u1 := .slice none 0 0) t0 t1
    have hS9 := Lib.hid (St.fin2 hstR.out hns (.bool false) (.slice none 0 0))
    have hC9 := Lib.hid (rw_fin2 hcrR.out hns (.bool false) (.slice none 0 0))
    have hB9 := Lib.hid (hBw.trans (fin2_below (u0 := .bool false) (u1 := .slice none 0 0) (show w.heap.size ≤ w.heap.size + 1 by omega)))
    change bodyPost _ _ _ _ _ (fin2 w1 (w.heap.size + 1) (.bool false) (.slice none 0 0))
    generalize fin2 w1 (w.heap.size + 1) (.bool false) (.slice none 0 0) = w9 at *
    exact bodyPost_ret (v := .tuple #[.slice A1 L1.length c1, .agg #[.bool false, .slice none 0 0], .int .i64 E]) (by simp [results, Tryd.results27, go_sem, z0, z1]) rfl ⟨_, _, _, none, 0, rfl, hS9.out, hC9.out, hB9.out⟩
  · simp only [if_neg h0, if_neg h1, if_neg h2]
    have kb0 : (m.kind.1 == 0) = false := by rw [beq_eq_false_iff_ne]; exact h0
    have kb1 : (m.kind.1 == 1) = false := by rw [beq_eq_false_iff_ne]; exact h1
    have kb2 : (m.kind.1 == 2) = false := by rw [beq_eq_false_iff_ne]; exact h2
    have hst : Hid (∀ W, Below w.heap.size w W → St W A c L gs) := Lib.hid fun W hbW => (h.keep hb).keep hbW
    clear h hb hm hG hs
    replace h0 := Lib.hid h0
    replace h1 := Lib.hid h1
    replace h2 := Lib.hid h2
    go_enter Tryd.func27, Tryd.ntmps27
    go_wp2_with fail
    exact bodyPost_ret (v := .tuple #[.slice A L.length c, .agg #[.bool false, .slice none 0 0], .int .i64 0]) (by simp [results, Tryd.results27, go_sem]) rfl ⟨A, c, L, none, 0, rfl, hst.out _ (by repeat (first | (with_reducible exact Below.refl _ _) | (with_reducible refine Below.drew ?_) | (with_reducible refine below_drewN ?_ _) | ((with_reducible refine Below.alloc ?_ ?_ _); rotate_left; focus ((try simp) <;> omega)) | ((with_reducible refine Below.setCell ?_ ?_ _); rotate_left; focus ((try simp) <;> omega)) | ((with_reducible refine Below.trans ?_ (Below.mono (by assumption) ?_)); rotate_left; focus ((try simp) <;> omega)))), Rw.nil, (by repeat (first | (with_reducible exact Below.refl _ _) | (with_reducible refine Below.drew ?_) | (with_reducible refine below_drewN ?_ _) | ((with_reducible refine Below.alloc ?_ ?_ _); rotate_left; focus ((try simp) <;> omega)) | ((with_reducible refine Below.setCell ?_ ?_ _); rotate_left; focus ((try simp) <;> omega)) | ((with_reducible refine Below.trans ?_ (Below.mono (by assumption) ?_)); rotate_left; focus ((try simp) <;> omega))))⟩
set_option maxRecDepth 100000 in
set_option maxHeartbeats 8000000 in
theorem model_any {W0 : World} {A : Option Addr} {c : Nat} {L : List Grp} {gs : List G} (w : World) (h : St W0 A c L gs) (hb : Below W0.heap.size W0 w) (hm : MildG gs) (m : Mov) (hp : m.name.1.size < 4294967281) (hs : shortR m.ref) :
    Calls Tryd.prog 28 #[.slice A L.length c, .agg #[.int .i64 m.kind.1, .string m.name.1, .string m.run.1, .string m.job.1, .int .i64 m.policy.1]] w (fun e w' => ∃ (A' : Option Addr) (c' : Nat) (l' : List Grp) (Ac : Option Addr) (Cc : Nat), e = .returned (.tuple #[.slice A' l'.length c', .agg #[.bool (doRun gs m), .slice Ac (doCan gs m).length Cc], .int .i64 (doE gs m)]) ∧ St w' A' c' l' (doL gs m) ∧ Rw jRefE 2 w' w'.heap.size Ac (doCan gs m) ∧ Below w.heap.size w w') := by
  have hns0 : Hid (NoStr ((w.alloc (.cells #[.int .i64 m.kind.1, .string m.name.1, .string m.run.1, .string m.job.1, .int .i64 m.policy.1] 31)).alloc (.cells #[.bool false, .slice none 0 0] 35)) (w.heap.size + 1)) := Lib.hid (by
    have h := nostr_adm (w := w.alloc (.cells #[.int .i64 m.kind.1, .string m.name.1, .string m.run.1, .string m.job.1, .int .i64 m.policy.1] 31)) false none 0 0 35
    rwa [World.size_alloc] at h)
  unfold doL doE doRun doCan
  by_cases h0 : m.kind.1 = 0
  · simp only [if_pos h0]
    rw [h0] at hns0 ⊢
    have hen : Hid (∀ W, Below w.heap.size w W → Calls Tryd.prog 15 #[.slice A L.length c, .string m.name.1, .agg #[.string m.run.1, .string m.job.1], .int .i64 m.policy.1] W fun e w' => ∃ (A' : Option Addr) (c' : Nat) (l' : List Grp) (Ac : Option Addr) (Cc : Nat), e = .returned (.tuple #[.slice A' l'.length c', .agg #[.bool (enterRun gs m.name m.ref m.policy.1), .slice Ac (enterCan gs m.name m.ref m.policy.1).length Cc], .int .i64 (enterE gs m.name m.ref m.policy.1)]) ∧ St w' A' c' l' (enterL gs m.name m.ref m.policy.1) ∧ Rw jRefE 2 w' w'.heap.size Ac (enterCan gs m.name m.ref m.policy.1) ∧ Below W.heap.size W w') := Lib.hid fun W hbW => renter_st (h.keep hb) hbW hm m.name m.ref m.policy hp hs
    generalize enterRun gs m.name m.ref m.policy.1 = R at *
    generalize enterE gs m.name m.ref m.policy.1 = E at *
    generalize enterL gs m.name m.ref m.policy.1 = G1 at *
    generalize enterCan gs m.name m.ref m.policy.1 = C at *
    clear h hb hm hs
    replace h0 := Lib.hid h0
    go_enter Tryd.func28, Tryd.ntmps28
    go_wp2_with (go_at_call 15; go_must (refine (hen.out _ (by repeat (first | (with_reducible exact Below.refl _ _) | (with_reducible refine Below.drew ?_) | (with_reducible refine below_drewN ?_ _) | ((with_reducible refine Below.alloc ?_ ?_ _); rotate_left; focus ((try simp) <;> omega)) | ((with_reducible refine Below.setCell ?_ ?_ _); rotate_left; focus ((try simp) <;> omega)) | ((with_reducible refine Below.trans ?_ (Below.mono (by assumption) ?_)); rotate_left; focus ((try simp) <;> omega))))).mono ?_; rintro e w1 ⟨A1, c1, L1, Ac1, Cc1, rfl, hst1, hcr1, hb1⟩; have hz1 := hb1.size; (try simp at hz1); obtain ⟨ua, va⟩ := blk_at hb1 (w.heap.size + 1) (by (try simp) <;> omega); have hnsR := Lib.hid (NoStr.keep hns0.out hb1 (by (try simp) <;> omega)); have hstR := Lib.hid hst1; have hcrR := Lib.hid hcr1; clear hcr1; clear hst1))
    have hns : NoStr w1 (w.heap.size + 1) := hnsR.out
    have t0 : (w1).cell? ⟨w.heap.size + 1, 0, none⟩ = some (.bool false) := by go_simp
    have t1 : (w1).cell? ⟨w.heap.size + 1, 1, none⟩ = some (.slice none 0 0) := by go_simp
    have hBw : Below w.heap.size w w1 := (by repeat (first | (with_reducible exact Below.refl _ _) | (with_reducible refine Below.drew ?_) | (with_reducible refine below_drewN ?_ _) | ((with_reducible refine Below.alloc ?_ ?_ _); rotate_left; focus ((try simp) <;> omega)) | ((with_reducible refine Below.setCell ?_ ?_ _); rotate_left; focus ((try simp) <;> omega)) | ((with_reducible refine Below.trans ?_ (Below.mono (by assumption) ?_)); rotate_left; focus ((try simp) <;> omega))))
    obtain ⟨z0, z1⟩ := fin2_cells (u0 := .bool R) (u1 := .slice Ac1 C.length Cc1) t0 t1
    have hS9 := Lib.hid (St.fin2 hstR.out hns (.bool R) (.slice Ac1 C.length Cc1))
    have hC9 := Lib.hid (rw_fin2 hcrR.out hns (.bool R) (.slice Ac1 C.length Cc1))
    have hB9 := Lib.hid (hBw.trans (fin2_below (u0 := .bool R) (u1 := .slice Ac1 C.length Cc1) (show w.heap.size ≤ w.heap.size + 1 by omega)))
    change bodyPost _ _ _ _ _ (fin2 w1 (w.heap.size + 1) (.bool R) (.slice Ac1 C.length Cc1))
    generalize fin2 w1 (w.heap.size + 1) (.bool R) (.slice Ac1 C.length Cc1) = w9 at *
    exact bodyPost_ret (v := .tuple #[.slice A1 L1.length c1, .agg #[.bool R, .slice Ac1 C.length Cc1], .int .i64 E]) (by simp [results, Tryd.results28, go_sem, z0, z1]) rfl ⟨_, _, _, Ac1, Cc1, rfl, hS9.out, hC9.out, hB9.out⟩
  by_cases h1 : m.kind.1 = 1
  · simp only [if_neg h0, if_pos h1]
    rw [h1] at hns0 ⊢
    have hle : Hid (∀ W, Below w.heap.size w W → Calls Tryd.prog 24 #[.slice A L.length c, .agg #[.string m.run.1, .string m.job.1]] W fun e w' => ∃ (A' : Option Addr) (c' : Nat) (l' : List Grp), e = .returned (.slice A' l'.length c') ∧ St w' A' c' l' (leaveL gs m.ref) ∧ Below W.heap.size W w') := Lib.hid fun W hbW => rleave_st (h.keep hb) hbW hm m.ref
    generalize leaveL gs m.ref = G1 at *
    clear h hb hm hs
    replace h0 := Lib.hid h0
    replace h1 := Lib.hid h1
    go_enter Tryd.func28, Tryd.ntmps28
    go_wp2_with (go_at_call 24; go_must (refine (hle.out _ (by repeat (first | (with_reducible exact Below.refl _ _) | (with_reducible refine Below.drew ?_) | (with_reducible refine below_drewN ?_ _) | ((with_reducible refine Below.alloc ?_ ?_ _); rotate_left; focus ((try simp) <;> omega)) | ((with_reducible refine Below.setCell ?_ ?_ _); rotate_left; focus ((try simp) <;> omega)) | ((with_reducible refine Below.trans ?_ (Below.mono (by assumption) ?_)); rotate_left; focus ((try simp) <;> omega))))).mono ?_; rintro e w1 ⟨A1, c1, L1, rfl, hst1, hb1⟩; have hz1 := hb1.size; (try simp at hz1); obtain ⟨ua, va⟩ := blk_at hb1 (w.heap.size + 1) (by (try simp) <;> omega); have hnsR := Lib.hid (NoStr.keep hns0.out hb1 (by (try simp) <;> omega)); have hstR := Lib.hid hst1; have hcrR : Hid (Rw jRefE 2 w1 w1.heap.size none []) := Lib.hid Rw.nil; clear hst1))
    have hns : NoStr w1 (w.heap.size + 1) := hnsR.out
    have t0 : (w1).cell? ⟨w.heap.size + 1, 0, none⟩ = some (.bool false) := by go_simp
    have t1 : (w1).cell? ⟨w.heap.size + 1, 1, none⟩ = some (.slice none 0 0) := by go_simp
    have hBw : Below w.heap.size w w1 := (by repeat (first | (with_reducible exact Below.refl _ _) | (with_reducible refine Below.drew ?_) | (with_reducible refine below_drewN ?_ _) | ((with_reducible refine Below.alloc ?_ ?_ _); rotate_left; focus ((try simp) <;> omega)) | ((with_reducible refine Below.setCell ?_ ?_ _); rotate_left; focus ((try simp) <;> omega)) | ((with_reducible refine Below.trans ?_ (Below.mono (by assumption) ?_)); rotate_left; focus ((try simp) <;> omega))))
    obtain ⟨z0, z1⟩ := fin2_cells (u0 := .bool false) (u1 := .slice none 0 0) t0 t1
    have hS9 := Lib.hid (St.fin2 hstR.out hns (.bool false) (.slice none 0 0))
    have hC9 := Lib.hid (rw_fin2 hcrR.out hns (.bool false) (.slice none 0 0))
    have hB9 := Lib.hid (hBw.trans (fin2_below (u0 := .bool false) (u1 := .slice none 0 0) (show w.heap.size ≤ w.heap.size + 1 by omega)))
    change bodyPost _ _ _ _ _ (fin2 w1 (w.heap.size + 1) (.bool false) (.slice none 0 0))
    generalize fin2 w1 (w.heap.size + 1) (.bool false) (.slice none 0 0) = w9 at *
    exact bodyPost_ret (v := .tuple #[.slice A1 L1.length c1, .agg #[.bool false, .slice none 0 0], .int .i64 0]) (by simp [results, Tryd.results28, go_sem, z0, z1]) rfl ⟨_, _, _, none, 0, rfl, hS9.out, hC9.out, hB9.out⟩
  by_cases h2 : m.kind.1 = 2
  · simp only [if_neg h0, if_neg h1, if_pos h2]
    rw [h2] at hns0 ⊢
    have hsa : Hid (∀ W, Below w.heap.size w W → Calls Tryd.prog 22 #[.slice A L.length c, .string m.name.1, .agg #[.string m.run.1, .string m.job.1]] W fun e w' => ∃ (A' : Option Addr) (c' : Nat) (l' : List Grp), e = .returned (.tuple #[.slice A' l'.length c', .int .i64 (startE gs m.name m.ref)]) ∧ St w' A' c' l' (startL gs m.name m.ref) ∧ Below W.heap.size W w') := Lib.hid fun W hbW => rstart_st (h.keep hb) hbW hm m.name m.ref
    generalize startE gs m.name m.ref = E at *
    generalize startL gs m.name m.ref = G1 at *
    clear h hb hm hs
    replace h0 := Lib.hid h0
    replace h1 := Lib.hid h1
    replace h2 := Lib.hid h2
    go_enter Tryd.func28, Tryd.ntmps28
    go_wp2_with (go_at_call 22; go_must (refine (hsa.out _ (by repeat (first | (with_reducible exact Below.refl _ _) | (with_reducible refine Below.drew ?_) | (with_reducible refine below_drewN ?_ _) | ((with_reducible refine Below.alloc ?_ ?_ _); rotate_left; focus ((try simp) <;> omega)) | ((with_reducible refine Below.setCell ?_ ?_ _); rotate_left; focus ((try simp) <;> omega)) | ((with_reducible refine Below.trans ?_ (Below.mono (by assumption) ?_)); rotate_left; focus ((try simp) <;> omega))))).mono ?_; rintro e w1 ⟨A1, c1, L1, rfl, hst1, hb1⟩; have hz1 := hb1.size; (try simp at hz1); obtain ⟨ua, va⟩ := blk_at hb1 (w.heap.size + 1) (by (try simp) <;> omega); have hnsR := Lib.hid (NoStr.keep hns0.out hb1 (by (try simp) <;> omega)); have hstR := Lib.hid hst1; have hcrR : Hid (Rw jRefE 2 w1 w1.heap.size none []) := Lib.hid Rw.nil; clear hst1))
    have hns : NoStr w1 (w.heap.size + 1) := hnsR.out
    have t0 : (w1).cell? ⟨w.heap.size + 1, 0, none⟩ = some (.bool false) := by go_simp
    have t1 : (w1).cell? ⟨w.heap.size + 1, 1, none⟩ = some (.slice none 0 0) := by go_simp
    have hBw : Below w.heap.size w w1 := (by repeat (first | (with_reducible exact Below.refl _ _) | (with_reducible refine Below.drew ?_) | (with_reducible refine below_drewN ?_ _) | ((with_reducible refine Below.alloc ?_ ?_ _); rotate_left; focus ((try simp) <;> omega)) | ((with_reducible refine Below.setCell ?_ ?_ _); rotate_left; focus ((try simp) <;> omega)) | ((with_reducible refine Below.trans ?_ (Below.mono (by assumption) ?_)); rotate_left; focus ((try simp) <;> omega))))
    obtain ⟨z0, z1⟩ := fin2_cells (u0 := .bool false) (u1 := .slice none 0 0) t0 t1
    have hS9 := Lib.hid (St.fin2 hstR.out hns (.bool false) (.slice none 0 0))
    have hC9 := Lib.hid (rw_fin2 hcrR.out hns (.bool false) (.slice none 0 0))
    have hB9 := Lib.hid (hBw.trans (fin2_below (u0 := .bool false) (u1 := .slice none 0 0) (show w.heap.size ≤ w.heap.size + 1 by omega)))
    change bodyPost _ _ _ _ _ (fin2 w1 (w.heap.size + 1) (.bool false) (.slice none 0 0))
    generalize fin2 w1 (w.heap.size + 1) (.bool false) (.slice none 0 0) = w9 at *
    exact bodyPost_ret (v := .tuple #[.slice A1 L1.length c1, .agg #[.bool false, .slice none 0 0], .int .i64 E]) (by simp [results, Tryd.results28, go_sem, z0, z1]) rfl ⟨_, _, _, none, 0, rfl, hS9.out, hC9.out, hB9.out⟩
  · simp only [if_neg h0, if_neg h1, if_neg h2]
    have kb0 : (m.kind.1 == 0) = false := by rw [beq_eq_false_iff_ne]; exact h0
    have kb1 : (m.kind.1 == 1) = false := by rw [beq_eq_false_iff_ne]; exact h1
    have kb2 : (m.kind.1 == 2) = false := by rw [beq_eq_false_iff_ne]; exact h2
    have hst : Hid (∀ W, Below w.heap.size w W → St W A c L gs) := Lib.hid fun W hbW => (h.keep hb).keep hbW
    clear h hb hm hs
    replace h0 := Lib.hid h0
    replace h1 := Lib.hid h1
    replace h2 := Lib.hid h2
    go_enter Tryd.func28, Tryd.ntmps28
    go_wp2_with fail
    exact bodyPost_ret (v := .tuple #[.slice A L.length c, .agg #[.bool false, .slice none 0 0], .int .i64 0]) (by simp [results, Tryd.results28, go_sem]) rfl ⟨A, c, L, none, 0, rfl, hst.out _ (by repeat (first | (with_reducible exact Below.refl _ _) | (with_reducible refine Below.drew ?_) | (with_reducible refine below_drewN ?_ _) | ((with_reducible refine Below.alloc ?_ ?_ _); rotate_left; focus ((try simp) <;> omega)) | ((with_reducible refine Below.setCell ?_ ?_ _); rotate_left; focus ((try simp) <;> omega)) | ((with_reducible refine Below.trans ?_ (Below.mono (by assumption) ?_)); rotate_left; focus ((try simp) <;> omega)))), Rw.nil, (by repeat (first | (with_reducible exact Below.refl _ _) | (with_reducible refine Below.drew ?_) | (with_reducible refine below_drewN ?_ _) | ((with_reducible refine Below.alloc ?_ ?_ _); rotate_left; focus ((try simp) <;> omega)) | ((with_reducible refine Below.setCell ?_ ?_ _); rotate_left; focus ((try simp) <;> omega)) | ((with_reducible refine Below.trans ?_ (Below.mono (by assumption) ?_)); rotate_left; focus ((try simp) <;> omega))))⟩
end Go.Proofs.YtbellobjajnlkaaDoor
