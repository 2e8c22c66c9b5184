/-
  The walk of the library's stable sort at pending jobs, at fewer than forty of them.
-/
import Derived.Test.YtnhfbignnnicnaaDoorQsort2
import Derived.Test.YtnhfbignnnicnaaDoorQsort3
import Derived.Lib.Hide

namespace Go.Proofs.YtnhfbignnnicnaaDoor
open Go.Shelf Go.RowKit Go.Lib Go.Sort
variable {P : Program} {α : Type} [Inhabited α] {cf : α → α → Int}

theorem sym_any {k : Nat} (L : Bare P k) (enc : α → List Value) (g : Nat) (cb : Array Value) (blk off cap : Nat) (d0 : Array α) (w0 : World)
    (eg : ∀ args w, (callFunc g args).run P w = .ok (.enter g args) w) (hcmp : CmpLays P g cb enc k cf blk off d0.size w0) (R : RowK enc k w0 blk off d0) :
    ∀ (f a m b : Nat) (d : Array α) (w : World), b - a ≤ f → d0.size = d.size → a < m → m < b → b ≤ d.size → d.size < 4611686018427387904 → SWK enc k w0 blk off d w →
    Calls P 60 #[.slice (some ⟨blk, off, none⟩) d.size cap, .int .i64 a, .int .i64 m, .int .i64 b, .func (.func g) #[] cb] w fun e w' => e = .returned (.tuple #[]) ∧ SWK enc k w0 blk off (symF (ltOf cf) f a m b d) w' := by
  intro f
  induction f with
  | zero => intro a m b d w hf _ h1 h2; omega
  | succ f ih =>
    intro a m b d w hf hs h1 h2 hb hsz S
    by_cases c1 : m - a = 1
    · exact sym_one L enc g cb blk off cap a m b f d0 d w0 w eg hcmp R hs S h1 h2 hb hsz c1
    · by_cases c2 : b - m = 1
      · exact sym_two L enc g cb blk off cap a m b f d0 d w0 w eg hcmp R hs S h1 h2 hb hsz c1 c2
      · exact sym_many L enc g cb blk off cap a m b f d0 d w0 w eg hcmp R hs S h1 h2 hb hsz c1 c2 hf ih

/-- The shelf's insertion sort, laid at this program's. -/
def insRen : Go.Shelf.Ren := ⟨fun | 20 => 59 | n => n, fun | 24 => 27 | 22 => 22 | 3 => 3 | 25 => 61 | 4 => 4 | 0 => 0 | n => n, fun | n => n⟩
theorem insLays {k : Nat} (L : Bare P k) : Go.Proofs.SlLaysF0.n20 P insRen := {
  mixed := L.mixed
  f20 := ⟨Tryd.f59.name, by decide, L.f59.trans (congrArg some (by kernel_rfl))⟩
  t0 := L.t0
  a0 := L.a0
  z0 := L.z0
  v0 := L.v0
  t3 := L.t3
  a3 := L.a3
  z3 := L.z3
  v3 := L.v3
  t4 := L.t4
  a4 := L.a4
  z4 := L.z4
  v4 := L.v4
  t22 := L.t22
  a22 := L.a22
  z22 := L.z22
  v22 := L.v22
  t25 := L.t61
  a25 := L.a61
  z25 := L.z61
  v25 := L.v61 }
theorem cmpLays_on {k : Nat} {g : Nat} {cb : Array Value} {enc : α → List Value} {blk off size : Nat} {w0 w : World} {d : Array α} (hblk : blk < w0.heap.size) (hs : d.size = size) (h : CmpLays P g cb enc k cf blk off size w0) (S : SWK enc k w0 blk off d w) : CmpLays P g cb enc k cf blk off size w := by
  intro m os dk hk x y
  obtain ⟨m', os', e⟩ := S.on hblk m dk os (by rw [hk, hs])
  rw [e]
  exact h m' os' dk hk x y
theorem ins_any {k : Nat} (L : Bare P k) (enc : α → List Value) (g : Nat) (cb : Array Value) (blk off cap a b : Nat) (d0 d : Array α) (w0 w : World)
    (eg : ∀ args w, (callFunc g args).run P w = .ok (.enter g args) w) (hcmp : CmpLays P g cb enc k cf blk off d0.size w0) (R : RowK enc k w0 blk off d0) (hs : d0.size = d.size) (S : SWK enc k w0 blk off d w) (hab : a ≤ b) (hb : b ≤ d.size) (hsz : d.size < 4611686018427387904) :
    Calls P 59 #[.slice (some ⟨blk, off, none⟩) d.size cap, .int .i64 a, .int .i64 b, .func (.func g) #[] cb] w fun e w' => e = .returned (.tuple #[]) ∧ SWK enc k w0 blk off (insertionSort (ltOf cf) d a b) w' := by
  have hH := S.holds R.hblk R.hH hs.symm
  have hlt := S.lt R.hblk
  have hc : CmpLays P g cb enc k cf blk off d.size w := cmpLays_on R.hblk rfl (by rw [← hs]; exact hcmp) S
  refine (AnyQ.insertionSortCmpFunc (insLays L) k L.aE L.zE enc R.hk R.h1 cf g cb blk off cap a b d w eg hc hH hlt hab hb hsz).mono ?_
  rintro e w' ⟨rfl, n, os, rfl⟩
  exact ⟨rfl, S.on R.hblk n _ os (insertionSort_perm (ltOf cf) a b d hb).1⟩

set_option maxHeartbeats 4000000 in
set_option maxRecDepth 1000000 in
/-- The sort, at fewer than forty elements. -/
theorem stable_any {k : Nat} (L : Bare P k) (enc : α → List Value) (g : Nat) (cb : Array Value) (blk off cap : Nat) (d : Array α) (w : World)
    (eg : ∀ args w, (callFunc g args).run P w = .ok (.enter g args) w) (hcmp : CmpLays P g cb enc k cf blk off d.size w) (R : RowK enc k w blk off d) (h40 : d.size < 40) :
    Calls P 50 #[.slice (some ⟨blk, off, none⟩) d.size cap, .int .i64 d.size, .func (.func g) #[] cb] w fun e w' => e = .returned (.tuple #[]) ∧ SWK enc k w blk off (stF (ltOf cf) d) w' := by
  have mixed := L.mixed; have t0 := L.t0; have a0 := L.a0; have z0 := L.z0; have v0 := L.v0; have t3 := L.t3; have a3 := L.a3; have z3 := L.z3; have v3 := L.v3; have t4 := L.t4; have a4 := L.a4; have z4 := L.z4; have v4 := L.v4; have t22 := L.t22; have a22 := L.a22; have z22 := L.z22; have v22 := L.v22; have t61 := L.t61; have a61 := L.a61; have z61 := L.z61; have v61 := L.v61; have t79 := L.t79; have a79 := L.a79; have z79 := L.z79; have v79 := L.v79; have aE := L.aE; have zE := L.zE
  have e59 : ∀ args w, (callFunc 59 args).run P w = .ok (.enter 59 args) w := enters_of L.f59 (by kernel_rfl) rfl
  have e60 : ∀ args w, (callFunc 60 args).run P w = .ok (.enter 60 args) w := enters_of L.f60 (by kernel_rfl) rfl
  have S0 : Aside (SWK enc k w blk off d w) := SWK.start R.hH
  have HC : Aside _ := hcmp
  clear hcmp
  obtain ⟨n, hn⟩ : ∃ n, d.size = n := ⟨_, rfl⟩
  have z1 := insertionSort_perm (ltOf cf) 0 20 d
  by_cases c1 : n < 20
  · have c1z : ¬ (20 : Int) ≤ (n : Int) := by omega
    have c2z : ¬ (20 : Int) < (n : Int) := by omega
    go_enter L.f50, Tryd.ntmps50
    rw [hn]
    go_wp2
    refine wp_loop_rounds 1 ?_
    rw [rounds_succ]
    go_wp2_with (go_at_fn 59; go_must (rw [← hn]; refine (ins_any L enc g cb blk off cap 0 d.size d d w w eg HC.out R rfl S0.out (by omega) (by omega) (by omega)).mono ?_; rintro e w5 ⟨rfl, S5⟩))
    refine wp_loop_rounds 1 ?_
    rw [rounds_succ]
    go_wp2
    go_end0
    refine ⟨rfl, ?_⟩
    unfold stF
    rw [if_pos (by omega)]
    exact S5
  · have d1p := z1 (by omega)
    have hz1 := d1p.1
    clear z1 d1p
    obtain ⟨d1, hd1⟩ : ∃ d1, insertionSort (ltOf cf) d 0 20 = d1 := ⟨_, rfl⟩
    rw [hd1] at hz1
    have c1z : (20 : Int) ≤ (n : Int) := by omega
    have c2z : ¬ (40 : Int) ≤ (n : Int) := by omega
    have c4z : ¬ (40 : Int) < (n : Int) := by omega
    by_cases c3 : n = 20
    · subst c3
      have hst : Hid (stF (ltOf cf) d = d1) := by show _ = _; unfold stF; rw [if_neg (by omega), if_pos (by omega)]; exact hd1
      have hi2 : Hid (insertionSort (ltOf cf) d1 20 20 = d1) := by show _ = _; unfold insertionSort; exact insOuter_stop _ _ _ _ _ (by omega)
      have i1 := fun W S => ins_any L enc g cb blk off cap 0 20 d d w W eg HC.out R rfl S (by omega) (by omega) (by omega)
      have i2 := fun W S => ins_any L enc g cb blk off cap 20 20 d d1 w W eg HC.out R (by omega) S (by omega) (by omega) (by omega)
      rw [hd1] at i1
      simp only [hz1, hn] at i1 i2
      replace i1 := Lib.hid i1
      replace i2 := Lib.hid i2
      go_enter L.f50, Tryd.ntmps50
      rw [hn]
      go_wp2
      refine wp_loop_rounds 2 ?_
      rw [rounds_succ]
      go_wp2_with (go_at_fn 59; go_must (refine (i1.out _ S0.out).mono ?_; rintro e w5 ⟨rfl, S5⟩))
      rw [rounds_succ]
      go_wp2_with (go_at_fn 59; go_must (refine (i2.out _ S5).mono ?_; rintro e w6 ⟨rfl, S6⟩; rw [hi2.out] at S6))
      refine wp_loop_rounds 1 ?_
      rw [rounds_succ]
      go_wp2
      go_end0
      exact ⟨rfl, by rw [hst.out]; exact S6⟩
    · have c3z : (20 : Int) < (n : Int) := by omega
      have hp2 := insertionSort_perm (ltOf cf) 20 n d1 (by omega)
      have hst : Hid (stF (ltOf cf) d = symF (ltOf cf) n 0 20 n (insertionSort (ltOf cf) d1 20 n)) := by show _ = _; unfold stF; rw [if_neg (by omega), if_neg (by omega), hn, hd1]
      obtain ⟨d2, hd2⟩ : ∃ d2, insertionSort (ltOf cf) d1 20 n = d2 := ⟨_, rfl⟩
      rw [hd2] at hst hp2
      have hz2 := hp2.1
      clear hp2
      go_enter L.f50, Tryd.ntmps50
      rw [hn]
      go_wp2
      refine wp_loop_rounds 2 ?_
      rw [rounds_succ]
      go_wp2_with (go_at_fn 59; go_must (rw [← hn]; refine (ins_any L enc g cb blk off cap 0 20 d d w w eg HC.out R rfl S0.out (by omega) (by omega) (by omega)).mono ?_; rintro e w5 ⟨rfl, S5⟩; rw [hd1] at S5; rw [hn]))
      rw [rounds_succ]
      go_wp2_with (go_at_fn 59; go_must (rw [← hn, ← hz1]; refine (ins_any L enc g cb blk off cap 20 d1.size d d1 w _ eg HC.out R (by omega) S5 (by omega) (by omega) (by omega)).mono ?_; rintro e w6 ⟨rfl, S6⟩; rw [hz1, hn] at S6; rw [hz1, hn]; rw [hd2] at S6))
      refine wp_loop_rounds 2 ?_
      rw [rounds_succ]
      go_wp2_with fail
      refine wp_loop_rounds 1 ?_
      rw [rounds_succ]
      go_wp2_with (go_at_fn 60; go_must (rw [show n = d2.size by omega]; refine (sym_any L enc g cb blk off cap d w eg HC.out R d2.size 0 20 d2.size d2 _ (by omega) (by omega) (by omega) (by omega) (by omega) (by omega) S6).mono ?_; rintro e w7 ⟨rfl, S7⟩; rw [show d2.size = n by omega] at S7; rw [show d2.size = n by omega]))
      rw [rounds_succ]
      go_wp2
      go_end0
      exact ⟨rfl, by rw [hst.out]; exact S7⟩

set_option maxRecDepth 1000000 in
/-- slices.SortStableFunc at pending jobs, at fewer than forty of them. -/
theorem sortStable_any {k : Nat} (L : Bare P k) (enc : α → List Value) (g : Nat) (cb : Array Value) (blk off cap : Nat) (d : Array α) (w : World)
    (eg : ∀ args w, (callFunc g args).run P w = .ok (.enter g args) w) (hcmp : CmpLays P g cb enc k cf blk off d.size w) (R : RowK enc k w blk off d) (h40 : d.size < 40) :
    Calls P 37 #[.slice (some ⟨blk, off, none⟩) d.size cap, .func (.func g) #[] cb] w fun e w' => e = .returned (.tuple #[]) ∧ SWK enc k w blk off (stF (ltOf cf) d) w' := by
  have mixed := L.mixed; have t0 := L.t0; have a0 := L.a0; have z0 := L.z0; have v0 := L.v0; have t3 := L.t3; have a3 := L.a3; have z3 := L.z3; have v3 := L.v3; have t4 := L.t4; have a4 := L.a4; have z4 := L.z4; have v4 := L.v4; have t22 := L.t22; have a22 := L.a22; have z22 := L.z22; have v22 := L.v22; have t61 := L.t61; have a61 := L.a61; have z61 := L.z61; have v61 := L.v61; have t79 := L.t79; have a79 := L.a79; have z79 := L.z79; have v79 := L.v79; have aE := L.aE; have zE := L.zE
  have e50 : ∀ args w, (callFunc 50 args).run P w = .ok (.enter 50 args) w := enters_of L.f50 (by kernel_rfl) rfl
  have h := stable_any L enc g cb blk off cap d w eg hcmp R h40
  clear hcmp R
  go_enter L.f37, Tryd.ntmps37
  go_wp2_with (go_at_fn 50; go_must (refine h.mono ?_; rintro e w5 ⟨rfl, S5⟩))
  go_end0
  exact ⟨rfl, S5⟩
end Go.Proofs.YtnhfbignnnicnaaDoor
