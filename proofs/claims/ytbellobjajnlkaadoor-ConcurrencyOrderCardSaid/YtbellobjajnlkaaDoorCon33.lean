/-
  The walks of groups: a job enters, by the reference; the laws' job, short and awake.
-/
import Derived.Test.YtbellobjajnlkaaDoorCon32
import Derived.Test.YtbellobjajnlkaaDoorCon2122
import Derived.Test.YtbellobjajnlkaaDoorCon28
import Derived.Test.YtbellobjajnlkaaDoorCon29




namespace Go.Proofs.YtbellobjajnlkaaDoor
open Go.RowKit

theorem renter_any (A : Option Addr) (c : Nat) (l : List Grp) (p : Str) (r : JRef) (P : I64) (w : World) (hr : RwG w w.heap.size A l) (hlc : l.length ≤ c) (hm : Mild l) (hp : p.1.size < 4294967281) (hs : shortR r) :
    Calls Tryd.prog 15 #[.slice A l.length c, .string p.1, .agg #[.string r.run.1, .string r.job.1], .int .i64 P.1] w (fun e w' => ∃ (A' : Option Addr) (c' : Nat) (l' : List Grp) (Ac : Option Addr) (Cc : Nat), e = .returned (.tuple #[.slice A' l'.length c', .agg #[.bool (enterRun (l.map Grp.g) p r P.1), .slice Ac (enterCan (l.map Grp.g) p r P.1).length Cc], .int .i64 (enterE (l.map Grp.g) p r P.1)]) ∧ RwG w' w'.heap.size A' l' ∧ l'.length ≤ c' ∧ l'.map Grp.g = enterL (l.map Grp.g) p r P.1 ∧ Rw jRefE 2 w' w'.heap.size Ac (enterCan (l.map Grp.g) p r P.1) ∧ Below w.heap.size w w') := by
  by_cases hE : enterE (l.map Grp.g) p r P.1 = 0
  · rcases hh : hasN p (l.map Grp.g) with _ | _
    · exact renter_new A c l p r P w hr hm hp hs hE hh
    · by_cases h0 : P.1 = 0
      · exact renter_queue A c l p r P w hr hm hp hs hE hh h0
      · by_cases h2 : P.1 = 2 ∧ (getG (l.map Grp.g) p).rn ≠ zR
        · exact renter_replace A c l p r P w hr hm hp hs hE hh h2.1 h2.2
        · exact renter_cancel A c l p r P w hr hm hp hs hE hh h0 h2
  · refine (renter_err A c l p r P w hr hm hp hs hE).mono ?_
    rintro e w' ⟨rfl, hb⟩
    have hRun : enterRun (l.map Grp.g) p r P.1 = false := by unfold enterRun; rw [if_pos hE]
    have hCan : enterCan (l.map Grp.g) p r P.1 = [] := by unfold enterCan; rw [if_pos hE]
    have hLst : enterL (l.map Grp.g) p r P.1 = l.map Grp.g := by unfold enterL; rw [if_pos hE]
    rw [hRun, hCan, hLst]
    exact ⟨A, c, l, none, 0, rfl, (hr.below hb (Nat.le_refl _)).more hb.size, hlc, rfl, Rw.nil, hb⟩

/-! What the walks ask of groups, by what they are. -/
structure MildG (gs : List G) : Prop where
  len : gs.length ≤ 1000000
  all : (allG gs).length ≤ 1000000
  wait : ∀ g ∈ gs, g.wait.length ≤ 1000000
  name : ∀ g ∈ gs, g.name.1.size < 4294967281
  refs : ∀ r ∈ allG gs, shortR r
theorem MildG.mild {l : List Grp} (h : MildG (l.map Grp.g)) : Mild l :=
  ⟨by simpa using h.len, h.all, fun x hx => h.wait x.g (List.mem_map_of_mem hx), fun x hx => h.name x.g (List.mem_map_of_mem hx), h.refs⟩
/-- A list of groups that reads as certain groups. -/
structure St (w : World) (A : Option Addr) (c : Nat) (L : List Grp) (gs : List G) : Prop where
  row : RwG w w.heap.size A L
  le : L.length ≤ c
  eq : L.map Grp.g = gs
theorem St.keep {w w' : World} {A : Option Addr} {c : Nat} {L : List Grp} {gs : List G} (h : St w A c L gs) (hb : Below w.heap.size w w') : St w' A c L gs := ⟨(h.row.below hb (Nat.le_refl _)).more hb.size, h.le, h.eq⟩
theorem enter_st {W0 W : World} {A : Option Addr} {c : Nat} {L : List Grp} {gs : List G} (h : St W0 A c L gs) (hb : Below W0.heap.size W0 W) (hm : MildG gs) (hG : Glob W) (p : Str) (r : JRef) (P : I64) (hp : p.1.size < 4294967281) (hs : shortR r) :
    Calls Tryd.prog 14 #[.slice A L.length c, .string p.1, .agg #[.string r.run.1, .string r.job.1], .int .i64 P.1] W fun e w' => ∃ (A' : Option Addr) (c' : Nat) (l' : List Grp) (Ac : Option Addr) (Cc : Nat), e = .returned (.tuple #[.slice A' l'.length c', .agg #[.bool (enterRun gs p r P.1), .slice Ac (enterCan gs p r P.1).length Cc], .int .i64 (enterE gs p r P.1)]) ∧ St w' A' c' l' (enterL gs p r P.1) ∧ Rw jRefE 2 w' w'.heap.size Ac (enterCan gs p r P.1) ∧ Below W.heap.size W w' := by
  obtain ⟨h1, h2, rfl⟩ := h.keep hb
  refine (enter_any A c L p r P W h1 h2 hm.mild hG hp hs).mono ?_
  rintro e w' ⟨A', c', l', Ac, Cc, h3, h4, h5, h6, h7, h8⟩
  exact ⟨A', c', l', Ac, Cc, h3, ⟨h4, h5, h6⟩, h7, h8⟩
theorem renter_st {W0 W : World} {A : Option Addr} {c : Nat} {L : List Grp} {gs : List G} (h : St W0 A c L gs) (hb : Below W0.heap.size W0 W) (hm : MildG gs) (p : Str) (r : JRef) (P : I64) (hp : p.1.size < 4294967281) (hs : shortR r) :
    Calls Tryd.prog 15 #[.slice A L.length c, .string p.1, .agg #[.string r.run.1, .string r.job.1], .int .i64 P.1] W fun e w' => ∃ (A' : Option Addr) (c' : Nat) (l' : List Grp) (Ac : Option Addr) (Cc : Nat), e = .returned (.tuple #[.slice A' l'.length c', .agg #[.bool (enterRun gs p r P.1), .slice Ac (enterCan gs p r P.1).length Cc], .int .i64 (enterE gs p r P.1)]) ∧ St w' A' c' l' (enterL gs p r P.1) ∧ Rw jRefE 2 w' w'.heap.size Ac (enterCan gs p r P.1) ∧ Below W.heap.size W w' := by
  obtain ⟨h1, h2, rfl⟩ := h.keep hb
  refine (renter_any A c L p r P W h1 h2 hm.mild hp hs).mono ?_
  rintro e w' ⟨A', c', l', Ac, Cc, h3, h4, h5, h6, h7, h8⟩
  exact ⟨A', c', l', Ac, Cc, h3, ⟨h4, h5, h6⟩, h7, h8⟩
theorem leave_st {W0 W : World} {A : Option Addr} {c : Nat} {L : List Grp} {gs : List G} (h : St W0 A c L gs) (hb : Below W0.heap.size W0 W) (hm : MildG gs) (hG : Glob W) (r : JRef) :
    Calls Tryd.prog 23 #[.slice A L.length c, .agg #[.string r.run.1, .string r.job.1]] W fun e w' => ∃ (A' : Option Addr) (c' : Nat) (l' : List Grp), e = .returned (.slice A' l'.length c') ∧ St w' A' c' l' (leaveL gs r) ∧ Below W.heap.size W w' := by
  obtain ⟨h1, h2, rfl⟩ := h.keep hb
  refine (leave_any A c L r W h1 h2 hm.mild hG).mono ?_
  rintro e w' ⟨A', c', l', h3, h4, h5, h6, h7⟩
  exact ⟨A', c', l', h3, ⟨h4, h5, h6⟩, h7⟩
theorem rleave_st {W0 W : World} {A : Option Addr} {c : Nat} {L : List Grp} {gs : List G} (h : St W0 A c L gs) (hb : Below W0.heap.size W0 W) (hm : MildG gs) (r : JRef) :
    Calls Tryd.prog 24 #[.slice A L.length c, .agg #[.string r.run.1, .string r.job.1]] W fun e w' => ∃ (A' : Option Addr) (c' : Nat) (l' : List Grp), e = .returned (.slice A' l'.length c') ∧ St w' A' c' l' (leaveL gs r) ∧ Below W.heap.size W w' := by
  obtain ⟨h1, h2, rfl⟩ := h.keep hb
  refine (rleave_any A c L r W h1 h2 hm.mild).mono ?_
  rintro e w' ⟨A', c', l', h3, h4, h5, h6, h7⟩
  exact ⟨A', c', l', h3, ⟨h4, h5, h6⟩, h7⟩
theorem start_st {W0 W : World} {A : Option Addr} {c : Nat} {L : List Grp} {gs : List G} (h : St W0 A c L gs) (hb : Below W0.heap.size W0 W) (hm : MildG gs) (hG : Glob W) (p : Str) (r : JRef) :
    Calls Tryd.prog 21 #[.slice A L.length c, .string p.1, .agg #[.string r.run.1, .string r.job.1]] W fun e w' => ∃ (A' : Option Addr) (c' : Nat) (l' : List Grp), e = .returned (.tuple #[.slice A' l'.length c', .int .i64 (startE gs p r)]) ∧ St w' A' c' l' (startL gs p r) ∧ Below W.heap.size W w' := by
  obtain ⟨h1, h2, rfl⟩ := h.keep hb
  refine (start_any A c L p r W h1 h2 hm.mild hG).mono ?_
  rintro e w' ⟨A', c', l', h3, h4, h5, h6, h7⟩
  exact ⟨A', c', l', h3, ⟨h4, h5, h6⟩, h7⟩
theorem rstart_st {W0 W : World} {A : Option Addr} {c : Nat} {L : List Grp} {gs : List G} (h : St W0 A c L gs) (hb : Below W0.heap.size W0 W) (hm : MildG gs) (p : Str) (r : JRef) :
    Calls Tryd.prog 22 #[.slice A L.length c, .string p.1, .agg #[.string r.run.1, .string r.job.1]] W fun e w' => ∃ (A' : Option Addr) (c' : Nat) (l' : List Grp), e = .returned (.tuple #[.slice A' l'.length c', .int .i64 (startE gs p r)]) ∧ St w' A' c' l' (startL gs p r) ∧ Below W.heap.size W w' := by
  obtain ⟨h1, h2, rfl⟩ := h.keep hb
  refine (rstart_any A c L p r W h1 h2 hm.mild).mono ?_
  rintro e w' ⟨A', c', l', h3, h4, h5, h6, h7⟩
  exact ⟨A', c', l', h3, ⟨h4, h5, h6⟩, h7⟩
theorem may_st {W0 W : World} {A : Option Addr} {c : Nat} {L : List Grp} {gs : List G} (h : St W0 A c L gs) (hb : Below W0.heap.size W0 W) (hm : MildG gs) (hG : Glob W) (p : Str) (r : JRef) :
    Calls Tryd.prog 25 #[.slice A L.length c, .string p.1, .agg #[.string r.run.1, .string r.job.1]] W fun e w' => e = .returned (.bool (mayB gs p r)) ∧ Below W.heap.size W w' := by
  obtain ⟨h1, h2, rfl⟩ := h.keep hb
  exact may_any A c L p r W h1 h2 hm.mild hG
theorem rmay_st {W0 W : World} {A : Option Addr} {c : Nat} {L : List Grp} {gs : List G} (h : St W0 A c L gs) (hb : Below W0.heap.size W0 W) (hm : MildG gs) (p : Str) (r : JRef) :
    Calls Tryd.prog 26 #[.slice A L.length c, .string p.1, .agg #[.string r.run.1, .string r.job.1]] W fun e w' => e = .returned (.bool (mayB gs p r)) ∧ Below W.heap.size W w' := by
  obtain ⟨h1, h2, rfl⟩ := h.keep hb
  exact rmay_any A c L p r W h1 hm.mild
theorem same_st {W0 W1 W : World} {A A2 : Option Addr} {c c2 : Nat} {L L2 : List Grp} {gs : List G} (h : St W0 A c L gs) (hb : Below W0.heap.size W0 W) (h' : St W1 A2 c2 L2 gs) (hb' : Below W1.heap.size W1 W) (hm : MildG gs) :
    Calls Tryd.prog 16 #[.slice A L.length c, .slice A2 L2.length c2] W fun e w' => e = .returned (.bool true) ∧ Below W.heap.size W w' := by
  obtain ⟨h1, h2, rfl⟩ := h.keep hb
  obtain ⟨h3, h4, h5⟩ := h'.keep hb'
  exact same_eq A A2 c c2 L L2 W h1 h3 h5.symm hm.mild

/-! The laws' job, short, awake. -/
def sB (s : Str) : Bool := decide (s.1.size ≤ 600)
def refS (r : JRef) : Bool := sB r.run && sB r.job
theorem refS_short {r : JRef} (h : refS r = true) : shortR r := by
  unfold refS sB at h
  simp only [Bool.and_eq_true, decide_eq_true_eq] at h
  exact ⟨by omega, by omega⟩
theorem shortl_any (r : JRef) (w : World) : Calls Tryd.prog 13 #[.agg #[.string r.run.1, .string r.job.1]] w fun e w' => e = .returned (.bool (refS r)) ∧ Below w.heap.size w w' := by
  have hR : refS r = (decide ((r.run.1.size : Int) ≤ 600) && decide ((r.job.1.size : Int) ≤ 600)) := by
    unfold refS sB
    congr 1
    · exact decide_eq_decide.2 (by omega)
    · exact decide_eq_decide.2 (by omega)
  rw [hR]
  clear hR
  by_cases h1 : (r.run.1.size : Int) ≤ 600
  · by_cases h2 : (r.job.1.size : Int) ≤ 600
    · go_enter Tryd.func13, Tryd.ntmps13
      go_wp2_with fail
      go_ret
      exact ⟨by simp [h1, h2], (by repeat (first | (with_reducible exact Below.refl _ _) | (with_reducible refine Below.drew ?_) | (with_reducible refine below_drewN ?_ _) | ((with_reducible refine Below.alloc ?_ ?_ _); rotate_left; focus ((try simp) <;> omega)) | ((with_reducible refine Below.setCell ?_ ?_ _); rotate_left; focus ((try simp) <;> omega)) | ((with_reducible refine Below.trans ?_ (Below.mono (by assumption) ?_)); rotate_left; focus ((try simp) <;> omega))))⟩
    · go_enter Tryd.func13, Tryd.ntmps13
      go_wp2_with fail
      go_ret
      exact ⟨by simp [h2], (by repeat (first | (with_reducible exact Below.refl _ _) | (with_reducible refine Below.drew ?_) | (with_reducible refine below_drewN ?_ _) | ((with_reducible refine Below.alloc ?_ ?_ _); rotate_left; focus ((try simp) <;> omega)) | ((with_reducible refine Below.setCell ?_ ?_ _); rotate_left; focus ((try simp) <;> omega)) | ((with_reducible refine Below.trans ?_ (Below.mono (by assumption) ?_)); rotate_left; focus ((try simp) <;> omega))))⟩
  · go_enter Tryd.func13, Tryd.ntmps13
    go_wp2_with fail
    go_ret
    exact ⟨by simp; omega, (by repeat (first | (with_reducible exact Below.refl _ _) | (with_reducible refine Below.drew ?_) | (with_reducible refine below_drewN ?_ _) | ((with_reducible refine Below.alloc ?_ ?_ _); rotate_left; focus ((try simp) <;> omega)) | ((with_reducible refine Below.setCell ?_ ?_ _); rotate_left; focus ((try simp) <;> omega)) | ((with_reducible refine Below.trans ?_ (Below.mono (by assumption) ?_)); rotate_left; focus ((try simp) <;> omega))))⟩
theorem ljob_any (s : ByteArray) (w : World) : Calls Tryd.prog 39 #[.string s] w fun e w' => e = .returned (.agg #[.string ⟨#[114]⟩, .string s]) ∧ Below w.heap.size w w' := by
  go_enter Tryd.func39, Tryd.ntmps39
  go_wp2_with fail
  exact bodyPost_ret (v := .agg #[.string ⟨#[114]⟩, .string s]) (by simp [results, Tryd.results39, go_sem]) rfl ⟨rfl, (by repeat (first | (with_reducible exact Below.refl _ _) | (with_reducible refine Below.drew ?_) | (with_reducible refine below_drewN ?_ _) | ((with_reducible refine Below.alloc ?_ ?_ _); rotate_left; focus ((try simp) <;> omega)) | ((with_reducible refine Below.setCell ?_ ?_ _); rotate_left; focus ((try simp) <;> omega)) | ((with_reducible refine Below.trans ?_ (Below.mono (by assumption) ?_)); rotate_left; focus ((try simp) <;> omega))))⟩
end Go.Proofs.YtbellobjajnlkaaDoor
