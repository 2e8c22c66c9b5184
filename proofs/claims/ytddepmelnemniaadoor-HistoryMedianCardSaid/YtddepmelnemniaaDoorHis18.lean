/-
  The walks of histories: a history, and histories, in new memory.
-/
import Derived.Test.YtddepmelnemniaaDoorHis17
import Derived.Test.YtddepmelnemniaaDoorCopyGr


namespace Go.Proofs.YtddepmelnemniaaDoor
open Go.RowKit

theorem samp_info : (Tryd.prog.info? 42).map (fun i => (i.zero, i.size, i.bytes)) = some (some (.agg #[.int .u64 0, .int .i64 0, .int .i64 0, .int .i64 0]), 4, 32) := by kernel_rfl
theorem hst_info : (Tryd.prog.info? 24).map (fun i => (i.zero, i.size, i.bytes)) = some (some (.agg #[.string ByteArray.empty, .slice none 0 0]), 2, 40) := by kernel_rfl
set_option maxRecDepth 100000 in
set_option maxHeartbeats 2000000 in
theorem copied_any (x : Hst) (w : World) (hx : LabHst w w.heap.size x) (hn : x.l.length ≤ 1000000) :
    Calls Tryd.prog 22 #[.agg #[.string x.name.1, .slice x.lA x.l.length x.lC]] w fun e w' => ∃ A, e = .returned (.agg #[.string x.name.1, .slice (some A) x.l.length x.l.length]) ∧ Own sampE 4 42 w' w.heap.size (.slice (some A) x.l.length x.l.length) x.l ∧ Below w.heap.size w w' := by
  obtain ⟨inf, hi0, iz0, iz1, iz2⟩ := info_parts samp_info
  have hsz : (Tryd.prog.info? 42).map (·.size) = some 4 := by rw [hi0]; simp [iz1]
  have hrd : Hid (Rw sampE 4 w w.heap.size x.lA x.l) := Lib.hid hx.2.2
  clear hx
  go_enter Tryd.func22, Tryd.ntmps22
  go_wp2_with (first
    | (at_make
       refine wpList_make_full _ rfl (.tmp 6) (.tmp 6) _ rfl w.heap.size 42 inf _ 4 Tryd.underlying22 hi0 iz0 iz1 _ _ _ _ x.l.length rfl rfl rfl rfl (by rw [iz2]; omega) (by simp [maxLen]; omega) (by (try simp) <;> omega) ?_
       intro w2 hown2 hg2
       have hz2 := hg2.size
       (try simp at hz2)
       simp only [World.size_alloc] at hown2
       obtain ⟨c2, f2⟩ := grown_blk hg2 w.heap.size (by (try simp) <;> omega) nofun
       obtain ⟨d2, e2⟩ := grown_blk hg2 (w.heap.size + 1) (by (try simp) <;> omega) nofun)
    | (refine wpList_copy_made (o := Oper.mk (some 11) _ _ _ _ _) rfl (.tmp 8) (.tmp 10) _ _ rfl sampE_len sampE_one 42 Tryd.underlying22 hsz w.heap.size _ x.l.length _ hown2 w.heap.size x.lA x.lC x.l (hrd.out.below (show Below w.heap.size w w2 from Below.grown (by repeat (first | (with_reducible exact Below.refl _ _) | (with_reducible refine Below.drew ?_) | (with_reducible refine below_drewN ?_ _) | ((with_reducible refine Below.alloc ?_ ?_ _); rotate_left; focus ((try simp) <;> omega)) | ((with_reducible refine Below.setCell ?_ ?_ _); rotate_left; focus ((try simp) <;> omega)) | ((with_reducible refine Below.trans ?_ (Below.mono (by assumption) ?_)); rotate_left; focus ((try simp) <;> omega)))) hg2 (by (try simp) <;> omega) nofun) (Nat.le_refl _)) rfl rfl rfl ?_
       intro w3 hown3 hg3
       have hz3 := hg3.size
       obtain ⟨c3, f3⟩ := grown_blk hg3 w.heap.size (by (try simp) <;> omega) (by (try simp) <;> omega)
       obtain ⟨d3, e3⟩ := grown_blk hg3 (w.heap.size + 1) (by (try simp) <;> omega) (by (try simp) <;> omega)))
  have hb3 : Below w.heap.size w w3 := ((show Below w.heap.size w w2 from Below.grown (by repeat (first | (with_reducible exact Below.refl _ _) | (with_reducible refine Below.drew ?_) | (with_reducible refine below_drewN ?_ _) | ((with_reducible refine Below.alloc ?_ ?_ _); rotate_left; focus ((try simp) <;> omega)) | ((with_reducible refine Below.setCell ?_ ?_ _); rotate_left; focus ((try simp) <;> omega)) | ((with_reducible refine Below.trans ?_ (Below.mono (by assumption) ?_)); rotate_left; focus ((try simp) <;> omega)))) hg2 (by (try simp) <;> omega) nofun).grown hg3 (by omega) (fun g hg => by simp [] at hg; omega))
  have hown := hown3
  replace hown3 := Lib.hid hown3
  have hlt : w.heap.size + 1 + 1 < w3.heap.size := (hown.lt _ rfl).2
  refine bodyPost_ret (v := .agg #[.string x.name.1, .slice (some ⟨w.heap.size + 1 + 1, 0, none⟩) x.l.length x.l.length]) (by simp [results, Tryd.results22, go_sem, d3, d2]) rfl ⟨_, rfl, ?_, (by repeat (first | (with_reducible exact Below.refl _ _) | (with_reducible refine Below.drew ?_) | (with_reducible refine below_drewN ?_ _) | ((with_reducible refine Below.alloc ?_ ?_ _); rotate_left; focus ((try simp) <;> omega)) | ((with_reducible refine Below.setCell ?_ ?_ _); rotate_left; focus ((try simp) <;> omega)) | ((with_reducible refine Below.trans ?_ (Below.mono (by assumption) ?_)); rotate_left; focus ((try simp) <;> omega))))⟩
  repeat (first | (with_reducible exact hown) | ((with_reducible refine Own.setCell ?_ ?_ _); rotate_left; focus (intro q hq e; (try simp [Value.ownBlock] at hq); (try simp at e); omega)) | (with_reducible refine Own.drew ?_))
end Go.Proofs.YtddepmelnemniaaDoor
