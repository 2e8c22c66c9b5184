/-
  The walks of the queue: a job removed, by the program and by the reference.
-/
import Derived.Test.YtnhfbignnnicnaaDoorQue13
import Derived.Deep.RegionLaw
import Derived.Lib.SliceRun



namespace Go.Proofs.YtnhfbignnnicnaaDoor
open Go.RowKit

def pendZ : List Value := [.string ⟨#[]⟩, .string ⟨#[]⟩, .string ⟨#[]⟩, .int .i64 0, .int .i64 0, .int .i64 0, .slice none 0 0, .int .i64 0, .string ⟨#[]⟩, .int .i64 0]
theorem run_clear_pend (w : World) (ty : TypeId) (b o c : Nat) (hc : ∀ j, j < 10 → (w.cell? ⟨b, o + j, none⟩).isSome = true) (hf : ∀ j, j < 10 → w.frozen? ⟨b, o + j, none⟩ = false) :
    (Builtin.clear_ #[22] ty #[.slice (some ⟨b, o, none⟩) 1 c]).run Tryd.prog w = .ok (.tuple #[]) (w.setCells b o pendZ) := by
  have hst := run_storeCells_cells (P := Tryd.prog) b o pendZ 0 w (by simpa [pendZ] using hc) (by simpa [pendZ] using hf) (by intro v hv; simp only [pendZ, List.mem_cons, List.not_mem_nil, or_false] at hv; rcases hv with rfl | rfl | rfl | rfl | rfl | rfl | rfl | rfl | rfl | rfl <;> rfl)
  simp only [Nat.add_zero] at hst
  have hz : (Builtin.zeroCells (Value.agg #[.string ⟨#[]⟩, .string ⟨#[]⟩, .string ⟨#[]⟩, .int .i64 0, .int .i64 0, .int .i64 0, .slice none 0 0, .int .i64 0, .string ⟨#[]⟩, .int .i64 0]).cells 1).toList = pendZ := by
    kernel_rfl
  simp [Builtin.clear_, run_underlying Tryd.underlying22, Tryd.zeroValue27, hz, hst]

theorem drop_flat {l : List Pend} {i t : Nat} {u : Value} (h : ((l.drop i).flatMap pendE)[t]? = some u) : (l.flatMap pendE)[i * 10 + t]? = some u := by
  obtain ⟨a, b, x, rfl, hx, hb⟩ := flat_get pendE_len h
  rw [List.getElem?_drop] at hx
  have := flat_at pendE_len hx hb
  rw [Nat.add_mul] at this
  rw [← Nat.add_assoc]; exact this

theorem below_setCells {B : Nat} {a : World} (g : Nat) (hg : B ≤ g) : ∀ (vs : List Value) (o : Nat) (w : World), Below B a w → Below B a (w.setCells g o vs)
  | [], _, _, h => h
  | v :: r, o, w, h => by rw [World.setCells]; exact below_setCells g hg r (o + 1) _ (h.setCell hg v)
theorem heap_setCells_at (g : Nat) {b : Nat} (hb : b ≠ g) : ∀ (vs : List Value) (o : Nat) (w : World), (w.setCells g o vs).heap[b]? = w.heap[b]?
  | [], _, _ => rfl
  | v :: r, o, w => by rw [World.setCells, heap_setCells_at g hb r]; exact Below.heap_setCell w ⟨g, o, none⟩ v b hb

set_option maxHeartbeats 4000000 in
set_option maxRecDepth 1000000 in
/-- One job of a queue of the call's own deleted in place. -/
theorem delete_any (g cap i j : Nat) (hj : j = i + 1) (l : List Pend) (H : Nat) (w : World) (hown : Own pendE 10 27 w H (.slice (some ⟨g, 0, none⟩) l.length cap) l) (hi : i < l.length) (hg : H ≤ g) (_hgw : g < w.heap.size) (hcap : l.length ≤ cap) (_hm : cap ≤ 9223372036854775807) :
    Calls Tryd.prog 43 #[.slice (some ⟨g, 0, none⟩) l.length cap, .int .i64 i, .int .i64 j] w fun e w' => e = .returned (.slice (some ⟨g, 0, none⟩) (l.length - 1) cap) ∧ Rw pendE 10 w' (g + 1) (some ⟨g, 0, none⟩) (l.eraseIdx i) ∧ (∀ b, b < w.heap.size → b ≠ g → w'.heap[b]? = w.heap[b]?) ∧ Below H w w' := by
  obtain ⟨inf, hi0, hz0, hz1, hz2⟩ := info_parts pend_info
  obtain ⟨n, hn⟩ : ∃ n, l.length = n := ⟨_, rfl⟩
  have hcell : ∀ t u, (l.flatMap pendE)[t]? = some u → w.cell? ⟨g, t, none⟩ = some u := fun t u hu => by
    have ht := (List.getElem?_eq_some_iff.1 hu).1
    rw [flat_len pendE_len] at ht
    rw [hown.cellAt t ht]; exact hu
  have hfro : ∀ t, w.frozen? ⟨g, t, none⟩ = false := fun t => hown.frozenAt t
  have hsome : ∀ t, t < n * 10 → (w.cell? ⟨g, t, none⟩).isSome = true := fun t ht => by
    have h2 : t < (l.flatMap pendE).length := by rw [flat_len pendE_len, hn]; exact ht
    rw [hcell t _ (List.getElem?_eq_getElem h2)]; rfl
  obtain ⟨news, hnews⟩ : ∃ news, news = (l.drop (i + 1)).flatMap pendE := ⟨_, rfl⟩
  have hlen : news.length = (n - (i + 1)) * 10 := by rw [hnews, flat_len pendE_len, List.length_drop, hn]
  have hget : ∀ t u, news[t]? = some u → w.cell? ⟨g, (i + 1) * 10 + t, none⟩ = some u := fun t u hu => hcell _ _ (drop_flat (by rw [← hnews]; exact hu))
  obtain ⟨A, hA, hsrc⟩ : ∃ A : Addr, (if cap = j then some (⟨g, 0, none⟩ : Addr) else some ⟨g, j * 10, none⟩) = some A ∧ Hid (∀ t u, news[t]? = some u → w.drew.cell? (A.add t) = some u) := by
    by_cases h : cap = j
    · refine ⟨⟨g, 0, none⟩, by simp [h], Lib.hid fun t u hu => ?_⟩
      have h0 : news.length = 0 := by rw [hlen]; omega
      rw [List.length_eq_zero_iff.1 h0] at hu
      simp at hu
    · refine ⟨⟨g, j * 10, none⟩, by simp [h], Lib.hid fun t u hu => ?_⟩
      rw [addr_plain, hj]
      exact hget t u hu
  have s1 : Hid (news.length = (n - j) * 10) := Lib.hid (by rw [hlen, hj])
  have s2 : Hid (∀ u ∈ news, u.oneCell' = true) := Lib.hid fun u hu => by
    rw [hnews] at hu
    obtain ⟨x, _, hx⟩ := List.mem_flatMap.1 hu
    exact pendE_one x u hx
  have s3 : Hid (∀ t, t < news.length → (w.drew.cell? ⟨g, 0 + i * 10 + t, none⟩).isSome = true ∧ w.drew.frozen? ⟨g, 0 + i * 10 + t, none⟩ = false) := Lib.hid fun t ht => by
    rw [Nat.zero_add]
    exact ⟨hsome _ (by omega), hfro _⟩
  obtain ⟨W1, hW1⟩ : ∃ W1, W1 = w.drew.setCells g (0 + i * 10) news := ⟨_, rfl⟩
  have hW1s : ∀ t, t < n * 10 → (W1.cell? ⟨g, t, none⟩).isSome = true := fun t ht => by
    rw [hW1]
    by_cases h : i * 10 ≤ t ∧ t < i * 10 + news.length
    · have := World.cell?_setCells_in g news (0 + i * 10) w.drew (fun j hj => (s3.out j hj).1) (t - i * 10) (by omega)
      rw [show 0 + i * 10 + (t - i * 10) = t by omega] at this
      rw [this]; rfl
    · rw [World.cell?_setCells_out g _ _ _ _ (fun _ _ => by show t < _ ∨ _ ≤ t; omega)]
      exact hsome t ht
  have hcl : ∀ ty, (Builtin.clear_ #[22] ty #[.slice (some ⟨g, (n - 1) * 10, none⟩) 1 (cap - (n - 1))]).run Tryd.prog W1 = .ok (.tuple #[]) (W1.setCells g ((n - 1) * 10) pendZ) := fun ty => run_clear_pend W1 ty g ((n - 1) * 10) _ (fun j hj => hW1s _ (by omega)) (fun j hj => by rw [hW1, World.frozen?_setCells]; exact hfro _)
  have hrow : Hid (Rw pendE 10 (W1.setCells g ((n - 1) * 10) pendZ) (g + 1) (some ⟨g, 0, none⟩) (l.eraseIdx i)) := Lib.hid fun _ => ⟨g, 0, rfl, by omega, fun k x hx t u hu => by
    have hk := (List.getElem?_eq_some_iff.1 hx).1
    rw [List.length_eraseIdx, if_pos hi] at hk
    have ht := (List.getElem?_eq_some_iff.1 hu).1
    rw [pendE_len] at ht
    rw [Nat.zero_add, World.cell?_setCells_out g _ _ _ _ (fun _ _ => by show k * 10 + t < _ ∨ _; omega), hW1]
    rw [List.getElem?_eraseIdx] at hx
    by_cases hki : k < i
    · rw [if_pos hki] at hx
      rw [World.cell?_setCells_out g _ _ _ _ (fun _ _ => by show k * 10 + t < _ ∨ _; omega)]
      exact hcell _ _ (flat_at pendE_len hx hu)
    · rw [if_neg hki] at hx
      have hd : (l.drop (i + 1))[k - i]? = some x := by rw [List.getElem?_drop, show i + 1 + (k - i) = k + 1 by omega]; exact hx
      have hnu : news[(k - i) * 10 + t]? = some u := by rw [hnews]; exact flat_at pendE_len hd hu
      obtain ⟨hlt, he⟩ := List.getElem?_eq_some_iff.1 hnu
      have := World.cell?_setCells_in g news (0 + i * 10) w.drew (fun j hj => (s3.out j hj).1) ((k - i) * 10 + t) hlt
      rw [show 0 + i * 10 + ((k - i) * 10 + t) = k * 10 + t by omega] at this
      rw [this, he]⟩
  have hblk : Hid (∀ b, b < w.heap.size → b ≠ g → (W1.setCells g ((n - 1) * 10) pendZ).heap[b]? = w.heap[b]?) := Lib.hid fun b hb hne => by
    rw [heap_setCells_at g hne, hW1, heap_setCells_at g hne]
    rfl
  have hbel : Hid (Below H w (W1.setCells g ((n - 1) * 10) pendZ)) := Lib.hid (by
    refine below_setCells g hg _ _ _ ?_
    rw [hW1]
    exact below_setCells g hg _ _ _ ((Below.refl _ _).drew))
  have e2 : n - (n - 1) = 1 := by omega
  have hW : Hid (W1 = w.drew.setCells g (0 + i * 10) news) := Lib.hid hW1
  have e1 : i + (n - j) = n - 1 := by omega
  rw [hn]
  rw [hn] at hcap hi
  have hic : i ≤ cap := by omega
  have hjc : j ≤ cap := by omega
  have hij : ((i : Int) == (j : Int)) = false := by rw [beq_eq_false_iff_ne]; omega
  have hjn : (j : Int) ≤ (n : Int) := by omega
  replace hj := Lib.hid hj
  clear hW1 hW1s hcell hsome hget hlen hnews hown
  go_enter Tryd.func43, Tryd.ntmps43
  go_wp2_with fail
  go_region_law (refine step_append_room rfl (.tmp 22) (.tmp 25) 22 rfl 27 inf 10 Tryd.underlying22 hi0 hz1 g 0 i cap (by simp [Act.eval, Act.put]) A (n - j) (cap - j) news (by simp [Act.eval, Act.put]) s1.out hsrc.out s2.out (by omega) s3.out ?_; rw [← hW.out])
  go_wp2_with fail
  go_ret
  exact ⟨rfl, hrow.out, hblk.out, hbel.out⟩
end Go.Proofs.YtnhfbignnnicnaaDoor
