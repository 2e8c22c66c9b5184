/-
  The walks of shards: the tests in their order, by the program.
-/
import Derived.Test.YtdjepnilmgembaaGreatDoorShw4



namespace Go.Proofs.YtdjepnilmgembaaGreatDoor
open Go.RowKit
open Go.Sort hiding Below

def cmT (ts : List Tm) (a b : Str) : Int := orI [Id.cmpI (clockT ts b) (clockT ts a), cmpS a b]
theorem or_two (x y c : Int) : orI [Id.cmpI x y, c] < 0 ↔ x < y ∨ (x = y ∧ c < 0) := by
  have h : orI [Id.cmpI x y, c] = if Id.cmpI x y ≠ 0 then Id.cmpI x y else if c ≠ 0 then c else 0 := rfl
  rw [h]
  unfold Id.cmpI
  repeat' split
  all_goals omega
theorem cmT_lt (ts : List Tm) (a b : Str) : ltOf (cmT ts) a b = befB (clockT ts) a b := by
  rw [Bool.eq_iff_iff, befB_iff]
  unfold ltOf cmT befT
  rw [decide_eq_true_iff, or_two]
  constructor
  · rintro (h | ⟨h, h2⟩)
    · exact .inl h
    · exact .inr ⟨h.symm, h2⟩
  · rintro (h | ⟨h, h2⟩)
    · exact .inl h
    · exact .inr ⟨h.symm, h2⟩
theorem cmT_swo (ts : List Tm) : SWO (ltOf (cmT ts)) where
  irrefl x := by rw [cmT_lt, ← Bool.not_eq_true, befB_iff]; exact bef_irr _ x
  trans x y z h1 h2 := by
    rw [cmT_lt, befB_iff] at *
    exact bef_trans h1 h2
  ntrans x y z h1 h2 := by
    rw [cmT_lt, ← Bool.not_eq_true, befB_iff] at *
    intro h3
    by_cases e1 : x = y
    · subst e1; exact h2 h3
    by_cases e2 : y = z
    · subst e2; exact h1 h3
    have g1 := (bef_or (t := clockT ts) e1).resolve_left h1
    have g2 := (bef_or (t := clockT ts) e2).resolve_left h2
    exact bef_irr _ x (bef_trans h3 (bef_trans g2 g1))
theorem cmT_tot (ts : List Tm) (x y : Str) (h1 : ltOf (cmT ts) x y = false) (h2 : ltOf (cmT ts) y x = false) : x = y := by
  rw [cmT_lt, ← Bool.not_eq_true, befB_iff] at h1 h2
  by_cases e : x = y
  · exact e
  · rcases bef_or (t := clockT ts) e with h | h
    · exact absurd h h1
    · exact absurd h h2
theorem cmT_ord (ts : List Tm) (l : List Str) : (l.mergeSort fun x y => !ltOf (cmT ts) y x) = ordL (clockT ts) l := by
  unfold ordL
  congr 1
  funext x y
  rw [cmT_lt]
set_option maxRecDepth 100000 in
set_option maxHeartbeats 4000000 in
theorem split1_any (a b : Str) (ts : List Tm) (tv B : Nat) (v : Value) (w : World) (h1 : w.cell? ⟨tv, 0, none⟩ = some v) (hB : B ≤ w.heap.size) (h2 : Clk w B v ts) :
    Calls Tryz.prog 32 #[.string a.1, .string b.1, .pointer (some ⟨tv, 0, none⟩)] w fun e w' => e = .returned (.int .i64 (cmT ts a b)) ∧ Bel w.heap.size w w' := by
  have hbl : tv < w.heap.size := World.block_lt_of_cell? _ _ h1
  obtain ⟨b3, b8, rfl, hb3, hb8, htm⟩ := clk_call h2
  have hta : Hid (∀ W, Below w.heap.size w W → Calls Tryz.prog 47 #[.string a.1, .pointer (some ⟨b3, 0, none⟩), .pointer (some ⟨b8, 0, none⟩)] W fun e w' => e = .returned (.int .i64 (clockT ts a)) ∧ W = w') := Lib.hid fun W hb => htm a W (by simp only [maxLen]; exact a.2) (hb.mono hB)
  have htb : Hid (∀ W, Below w.heap.size w W → Calls Tryz.prog 47 #[.string b.1, .pointer (some ⟨b3, 0, none⟩), .pointer (some ⟨b8, 0, none⟩)] W fun e w' => e = .returned (.int .i64 (clockT ts b)) ∧ W = w') := Lib.hid fun W hb => htm b W (by simp only [maxLen]; exact b.2) (hb.mono hB)
  have hst : Hid (∀ W, Calls Tryz.prog 35 #[.string a.1, .string b.1] W fun e w' => e = .returned (.int .i64 (cmpS a b)) ∧ Bel W.heap.size W w') := Lib.hid fun W => compare_any _ _ a.2 b.2 W
  clear htm h2
  have hf : Hid (∀ ta tb, clockT ts a = ta → clockT ts b = tb → cmT ts a b = orI [Id.cmpI tb ta, cmpS a b]) := Lib.hid (fun ta tb e1 e2 => by rw [← e1, ← e2]; rfl)
  obtain ⟨ta, hea⟩ : ∃ ta, clockT ts a = ta := ⟨_, rfl⟩
  obtain ⟨tb, heb⟩ : ∃ tb, clockT ts b = tb := ⟨_, rfl⟩
  rw [hea] at hta
  rw [heb] at htb
  replace hea := Lib.hid hea
  replace heb := Lib.hid heb
  go_enter Tryz.func32, Tryz.ntmps32
  go_wp2_with fail
  go_region_held3 (fun w' => w'.cell? ⟨tv, 0, none⟩ = some (.func (.func 47) #[] #[.pointer (some ⟨b3, 0, none⟩), .pointer (some ⟨b8, 0, none⟩)])) (go_keep)
    (first
      | (go_at_call 47; with_reducible refine (htb.out _ ?_).mono ?_; exact (by repeat (first | (with_reducible exact Below.refl _ _) | (with_reducible refine Below.drew ?_) | (with_reducible refine below_drewN ?_ _) | ((with_reducible refine Below.alloc ?_ ?_ _); rotate_left; focus ((try simp) <;> omega)) | ((with_reducible refine Below.setCell ?_ ?_ _); rotate_left; focus ((try simp) <;> omega)) | ((with_reducible refine Below.trans ?_ (Below.mono (by assumption) ?_)); rotate_left; focus ((try simp) <;> omega)))); rintro e w5 ⟨rfl, rfl⟩)
      | (go_at_call 47; with_reducible refine (hta.out _ ?_).mono ?_; exact (by repeat (first | (with_reducible exact Below.refl _ _) | (with_reducible refine Below.drew ?_) | (with_reducible refine below_drewN ?_ _) | ((with_reducible refine Below.alloc ?_ ?_ _); rotate_left; focus ((try simp) <;> omega)) | ((with_reducible refine Below.setCell ?_ ?_ _); rotate_left; focus ((try simp) <;> omega)) | ((with_reducible refine Below.trans ?_ (Below.mono (by assumption) ?_)); rotate_left; focus ((try simp) <;> omega)))); rintro e w5 ⟨rfl, rfl⟩)
      | (go_at_call 34; go_must (refine (cmpInt_any _ _ _).mono ?_; rintro e w2 ⟨rfl, rfl⟩))
      | (go_at_call 35; with_reducible refine (hst.out _).mono ?_; rintro e w3 ⟨rfl, hb3⟩; have hz3 := hb3.size; (try simp at hz3); obtain ⟨hc3, hf3⟩ := blk_at hb3.toBelow tv (by (try simp) <;> omega))
      | (go_at_call 33; go_must (refine (or_any _ _ 2 2 [Id.cmpI tb ta, cmpS a b] _ rfl (by omega) (by intro i hi; rcases i with _ | _ | i <;> first | (simp; done) | (exfalso; omega))).mono ?_; rintro e w2 ⟨rfl, rfl⟩)))
  all_goals go_wp2_with fail
  all_goals go_ret
  all_goals exact ⟨by rw [hf.out ta tb hea.out heb.out]; rfl, (by repeat (first | (with_reducible exact Bel.refl _ _) | (with_reducible refine Bel.drew ?_) | (with_reducible refine Bel.drewN ?_ _) | ((with_reducible refine Bel.alloc ?_ ?_ _); rotate_left; focus ((try simp) <;> omega)) | ((with_reducible refine Bel.setCell ?_ ?_ _); rotate_left; focus ((try simp) <;> omega)) | ((with_reducible refine Bel.trans ?_ (Bel.mono (by assumption) ?_)); rotate_left; focus ((try simp) <;> omega))))⟩
theorem splits_lays (ts : List Tm) (tv H g size : Nat) (v : Value) (w : World) (h1 : w.cell? ⟨tv, 0, none⟩ = some v) (ht : tv < H) (h2 : Clk w H v ts) (hH : H ≤ w.heap.size) (hg : H ≤ g) :
    Go.Proofs.CmpLays1 Tryz.prog 32 #[.pointer (some ⟨tv, 0, none⟩)] (fun s : Str => Value.string s.1) (cmT ts) g 0 size w := by
  intro m os dk _ x y
  have hb : Below H w (sortWorld (fun s : Str => Value.string s.1) w g 0 m dk os) := by
    unfold sortWorld
    exact below_sorted _ hg hH
  refine (split1_any x y ts tv H v _ ((hb.cell (p := ⟨tv, 0, none⟩) ht).trans h1) (Nat.le_trans hH hb.size) (h2.below hb (Nat.le_refl _))).mono fun e w' h => ⟨h.1, ?_⟩
  exact h.2.grow
/-- The tests, sorted in place. -/
theorem sortT_any (ts : List Tm) (tv H g cap : Nat) (v : Value) (l : List Str) (w : World) (h1 : w.cell? ⟨tv, 0, none⟩ = some v) (ht : tv < H) (h2 : Clk w H v ts) (hown : Own sE 1 9 w H (.slice (some ⟨g, 0, none⟩) l.length cap) l) (hH : H ≤ w.heap.size) (hn : l.length ≤ 1000000) :
    Calls Tryz.prog 31 #[.slice (some ⟨g, 0, none⟩) l.length cap, .func (.func 32) #[] #[.pointer (some ⟨tv, 0, none⟩)]] w fun e w' => e = .returned (.tuple #[]) ∧ Rw sE 1 w' w'.heap.size (some ⟨g, 0, none⟩) (ordL (clockT ts) l) ∧ Below H w w' := by
  have eg : ∀ args w, (callFunc 32 args).run Tryz.prog w = .ok (.enter 32 args) w := enters_of Tryz.func32 (by kernel_rfl) rfl
  have hlt := hown.lt g rfl
  have hHo := holds_own hown
  have hlen : l.toArray.size = l.length := by simp
  have hs := Tryz.slices_SortFunc_total (fun s : Str => Value.string s.1) (fun _ => rfl) (cmT ts) (cmT_swo ts) 32 #[.pointer (some ⟨tv, 0, none⟩)] g 0 cap l.toArray w eg (splits_lays ts tv H g _ v w h1 ht h2 hH hlt.1) hHo hlt.2 (by rw [hlen]; omega) (cmT_tot ts)
  rw [hlen] at hs
  refine hs.mono ?_
  rintro e w2 ⟨rfl, n, os, rfl⟩
  rw [show l.toArray.toList = l from rfl, cmT_ord]
  have hb : Below H w (sortWorld (fun s : Str => Value.string s.1) w g 0 n (ordL (clockT ts) l).toArray os) := by
    unfold sortWorld
    exact below_sorted _ hlt.1 hH
  refine ⟨rfl, fun _ => ⟨g, 0, rfl, Nat.lt_of_lt_of_le hlt.2 hb.size, fun i x hx j u hu => ?_⟩, hb⟩
  have hil := (List.getElem?_eq_some_iff.1 hx).1
  have hL : (ordL (clockT ts) l).length = l.length := (ord_perm _ _).length_eq
  have hH2 : Go.Sort.Holds (fun s : Str => Value.string s.1) (sortWorld (fun s : Str => Value.string s.1) w g 0 n (ordL (clockT ts) l).toArray os) g 0 (ordL (clockT ts) l).toArray := by
    unfold sortWorld
    exact holds_grow' (holds_putRow _ _ _ _ _ _ (holds_ahead' hHo n) (by simp [hL])) os
  have hc := (hH2 i (by simpa using hil)).1
  have hj : j = 0 := by have := (List.getElem?_eq_some_iff.1 hu).1; simp [sE] at this; exact this
  subst hj
  obtain rfl : Value.string x.1 = u := by simpa [sE] using hu
  rw [Nat.mul_one, Nat.add_zero, hc, getElem!_def, List.getElem?_toArray, hx]
theorem sclone_own (A : Option Addr) (c : Nat) (l : List Str) (w : World) (hr : Rw sE 1 w w.heap.size A l) (hn : l.length ≤ 1000000) :
    Calls Tryz.prog 30 #[.slice A l.length c] w fun e w' => ∃ A' C', e = .returned (.slice A' l.length C') ∧ Own sE 1 9 w' w.heap.size (.slice A' l.length C') l ∧ Below w.heap.size w w' := by
  rcases A with _ | a
  · obtain rfl : l = [] := by
      rcases Nat.eq_zero_or_pos l.length with h0 | h0
      · exact List.eq_nil_of_length_eq_zero h0
      · obtain ⟨g, o, e, _⟩ := hr h0
        cases e
    refine (cloneS_any_nil _ _ w).mono ?_
    rintro e w1 ⟨rfl, rfl⟩
    exact ⟨none, 0, rfl, Own.nil _ _ _, Below.refl _ _⟩
  · refine (cloneS_any_some a c l w hr (by omega)).mono ?_
    rintro e w1 ⟨v, rfl, hown, _, hb1⟩
    obtain ⟨A1, c1, rfl, _, _, _⟩ := hown.form
    exact ⟨A1, c1, rfl, hown, hb1⟩
end Go.Proofs.YtdjepnilmgembaaGreatDoor
