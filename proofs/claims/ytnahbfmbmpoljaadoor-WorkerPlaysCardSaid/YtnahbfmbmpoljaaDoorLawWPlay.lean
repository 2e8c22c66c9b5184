/-
  WorkerPlays: in every sequence of calls (of at most 60) a valid worker remains valid, has no more tokens than slots, accepts as many jobs as Free says, and its phase never returns to an earlier one; the example holds. No condition.
-/
import Derived.Test.YtnahbfmbmpoljaaDoorWplS
import Derived.Test.YtnahbfmbmpoljaaDoorWplA
import Derived.Test.YtnahbfmbmpoljaaDoorWplD
import Derived.Test.YtnahbfmbmpoljaaDoorWplO
import Derived.Test.YtnahbfmbmpoljaaDoorWplE





namespace Go.Proofs.YtnahbfmbmpoljaaDoor.workerPlays
open Go.ChangeShapes Go.WideShapes Go.ChangeAt Go.RowKit Go.Joins
theorem own : ownKnob Tryd.prog.godebug = none := by kernel_rfl
theorem laidOut : laidOutB Tryd.prog = true := by kernel_rfl

set_option maxRecDepth 1000000 in
theorem round (x : Work) (A : Option Addr) (c : Nat) (l : List Mov) (w : World) (hr : Rw movE 4 w w.heap.size A l) (hG : Glob w) (hok : LabOk x) (hnl : x.labs.length ≤ 1000000 ∧ x.toks.length ≤ 1000000) (hl : l.length ≤ 60) (z0 z3 z11 z12 z13 z14 z15 z16 z17 z18 z19 z20 z21 z22 z23 z24 z25 z26 z195 : Value) (Q0 : Exit → Act → World → Prop) (hret : ∀ a' w', WT w a' w' → Q0 .ret a' w') (hexit : ∀ a' w', WX w l A c z0 z3 z11 z12 z13 z14 z15 z16 z17 z18 z19 z20 z21 z22 z23 z24 z25 z26 z195 a' w' → Q0 (.exit 0) a' w') (a' : Act) (wr : World) (hI : WI x l w A c z0 z3 z11 z12 z13 z14 z15 z16 z17 z18 z19 z20 z21 z22 z23 z24 z25 z26 z195 a' wr) :
    Code.wp Tryd.prog body (Exit.then (fun a2 w2 => WI x l w A c z0 z3 z11 z12 z13 z14 z15 z16 z17 z18 z19 z20 z21 z22 z23 z24 z25 z26 z195 a2 w2 ∧ Wmu l a2 w2 < Wmu l a' wr) Q0) a' wr := by
  unfold WI at hI
  obtain ⟨u4, hI⟩ := hI
  obtain ⟨u5, hI⟩ := hI
  obtain ⟨u6, hI⟩ := hI
  obtain ⟨u7, hI⟩ := hI
  obtain ⟨u8, hI⟩ := hI
  obtain ⟨u9, hI⟩ := hI
  obtain ⟨u10, hI⟩ := hI
  obtain ⟨u27, hI⟩ := hI
  obtain ⟨u28, hI⟩ := hI
  obtain ⟨u29, hI⟩ := hI
  obtain ⟨u30, hI⟩ := hI
  obtain ⟨u31, hI⟩ := hI
  obtain ⟨u32, hI⟩ := hI
  obtain ⟨u33, hI⟩ := hI
  obtain ⟨u34, hI⟩ := hI
  obtain ⟨u35, hI⟩ := hI
  obtain ⟨u36, hI⟩ := hI
  obtain ⟨u37, hI⟩ := hI
  obtain ⟨u38, hI⟩ := hI
  obtain ⟨u39, hI⟩ := hI
  obtain ⟨u40, hI⟩ := hI
  obtain ⟨u41, hI⟩ := hI
  obtain ⟨u42, hI⟩ := hI
  obtain ⟨u43, hI⟩ := hI
  obtain ⟨u44, hI⟩ := hI
  obtain ⟨u45, hI⟩ := hI
  obtain ⟨u46, hI⟩ := hI
  obtain ⟨u47, hI⟩ := hI
  obtain ⟨u48, hI⟩ := hI
  obtain ⟨u49, hI⟩ := hI
  obtain ⟨u50, hI⟩ := hI
  obtain ⟨u51, hI⟩ := hI
  obtain ⟨u52, hI⟩ := hI
  obtain ⟨u53, hI⟩ := hI
  obtain ⟨u54, hI⟩ := hI
  obtain ⟨u55, hI⟩ := hI
  obtain ⟨u56, hI⟩ := hI
  obtain ⟨u57, hI⟩ := hI
  obtain ⟨u58, hI⟩ := hI
  obtain ⟨u59, hI⟩ := hI
  obtain ⟨u60, hI⟩ := hI
  obtain ⟨u61, hI⟩ := hI
  obtain ⟨u62, hI⟩ := hI
  obtain ⟨u63, hI⟩ := hI
  obtain ⟨u64, hI⟩ := hI
  obtain ⟨u65, hI⟩ := hI
  obtain ⟨u66, hI⟩ := hI
  obtain ⟨u67, hI⟩ := hI
  obtain ⟨u68, hI⟩ := hI
  obtain ⟨u69, hI⟩ := hI
  obtain ⟨u70, hI⟩ := hI
  obtain ⟨u71, hI⟩ := hI
  obtain ⟨u72, hI⟩ := hI
  obtain ⟨u73, hI⟩ := hI
  obtain ⟨u74, hI⟩ := hI
  obtain ⟨u75, hI⟩ := hI
  obtain ⟨u76, hI⟩ := hI
  obtain ⟨u77, hI⟩ := hI
  obtain ⟨u78, hI⟩ := hI
  obtain ⟨u79, hI⟩ := hI
  obtain ⟨u80, hI⟩ := hI
  obtain ⟨u81, hI⟩ := hI
  obtain ⟨u82, hI⟩ := hI
  obtain ⟨u83, hI⟩ := hI
  obtain ⟨u84, hI⟩ := hI
  obtain ⟨u85, hI⟩ := hI
  obtain ⟨u86, hI⟩ := hI
  obtain ⟨u87, hI⟩ := hI
  obtain ⟨u88, hI⟩ := hI
  obtain ⟨u89, hI⟩ := hI
  obtain ⟨u90, hI⟩ := hI
  obtain ⟨u91, hI⟩ := hI
  obtain ⟨u92, hI⟩ := hI
  obtain ⟨u93, hI⟩ := hI
  obtain ⟨u94, hI⟩ := hI
  obtain ⟨u95, hI⟩ := hI
  obtain ⟨u96, hI⟩ := hI
  obtain ⟨u97, hI⟩ := hI
  obtain ⟨u98, hI⟩ := hI
  obtain ⟨u99, hI⟩ := hI
  obtain ⟨u100, hI⟩ := hI
  obtain ⟨u101, hI⟩ := hI
  obtain ⟨u102, hI⟩ := hI
  obtain ⟨u103, hI⟩ := hI
  obtain ⟨u104, hI⟩ := hI
  obtain ⟨u105, hI⟩ := hI
  obtain ⟨u106, hI⟩ := hI
  obtain ⟨u107, hI⟩ := hI
  obtain ⟨u108, hI⟩ := hI
  obtain ⟨u109, hI⟩ := hI
  obtain ⟨u110, hI⟩ := hI
  obtain ⟨u111, hI⟩ := hI
  obtain ⟨u112, hI⟩ := hI
  obtain ⟨u113, hI⟩ := hI
  obtain ⟨u114, hI⟩ := hI
  obtain ⟨u115, hI⟩ := hI
  obtain ⟨u116, hI⟩ := hI
  obtain ⟨u117, hI⟩ := hI
  obtain ⟨u118, hI⟩ := hI
  obtain ⟨u119, hI⟩ := hI
  obtain ⟨u120, hI⟩ := hI
  obtain ⟨u121, hI⟩ := hI
  obtain ⟨u122, hI⟩ := hI
  obtain ⟨u123, hI⟩ := hI
  obtain ⟨u124, hI⟩ := hI
  obtain ⟨u125, hI⟩ := hI
  obtain ⟨u126, hI⟩ := hI
  obtain ⟨u127, hI⟩ := hI
  obtain ⟨u128, hI⟩ := hI
  obtain ⟨u129, hI⟩ := hI
  obtain ⟨u130, hI⟩ := hI
  obtain ⟨u131, hI⟩ := hI
  obtain ⟨u132, hI⟩ := hI
  obtain ⟨u133, hI⟩ := hI
  obtain ⟨u134, hI⟩ := hI
  obtain ⟨u135, hI⟩ := hI
  obtain ⟨u136, hI⟩ := hI
  obtain ⟨u137, hI⟩ := hI
  obtain ⟨u138, hI⟩ := hI
  obtain ⟨u139, hI⟩ := hI
  obtain ⟨u140, hI⟩ := hI
  obtain ⟨u141, hI⟩ := hI
  obtain ⟨u142, hI⟩ := hI
  obtain ⟨u143, hI⟩ := hI
  obtain ⟨u144, hI⟩ := hI
  obtain ⟨u145, hI⟩ := hI
  obtain ⟨u146, hI⟩ := hI
  obtain ⟨u147, hI⟩ := hI
  obtain ⟨u148, hI⟩ := hI
  obtain ⟨u149, hI⟩ := hI
  obtain ⟨u150, hI⟩ := hI
  obtain ⟨u151, hI⟩ := hI
  obtain ⟨u152, hI⟩ := hI
  obtain ⟨u153, hI⟩ := hI
  obtain ⟨u154, hI⟩ := hI
  obtain ⟨u155, hI⟩ := hI
  obtain ⟨u156, hI⟩ := hI
  obtain ⟨u157, hI⟩ := hI
  obtain ⟨u158, hI⟩ := hI
  obtain ⟨u159, hI⟩ := hI
  obtain ⟨u160, hI⟩ := hI
  obtain ⟨u161, hI⟩ := hI
  obtain ⟨u162, hI⟩ := hI
  obtain ⟨u163, hI⟩ := hI
  obtain ⟨u164, hI⟩ := hI
  obtain ⟨u165, hI⟩ := hI
  obtain ⟨u166, hI⟩ := hI
  obtain ⟨u167, hI⟩ := hI
  obtain ⟨u168, hI⟩ := hI
  obtain ⟨u169, hI⟩ := hI
  obtain ⟨u170, hI⟩ := hI
  obtain ⟨u171, hI⟩ := hI
  obtain ⟨u172, hI⟩ := hI
  obtain ⟨u173, hI⟩ := hI
  obtain ⟨u174, hI⟩ := hI
  obtain ⟨u175, hI⟩ := hI
  obtain ⟨u176, hI⟩ := hI
  obtain ⟨u177, hI⟩ := hI
  obtain ⟨u178, hI⟩ := hI
  obtain ⟨u179, hI⟩ := hI
  obtain ⟨u180, hI⟩ := hI
  obtain ⟨u181, hI⟩ := hI
  obtain ⟨u182, hI⟩ := hI
  obtain ⟨u183, hI⟩ := hI
  obtain ⟨u184, hI⟩ := hI
  obtain ⟨u185, hI⟩ := hI
  obtain ⟨u186, hI⟩ := hI
  obtain ⟨u187, hI⟩ := hI
  obtain ⟨u188, hI⟩ := hI
  obtain ⟨u189, hI⟩ := hI
  obtain ⟨u190, hI⟩ := hI
  obtain ⟨u191, hI⟩ := hI
  obtain ⟨u192, hI⟩ := hI
  obtain ⟨u193, hI⟩ := hI
  obtain ⟨u194, hI⟩ := hI
  obtain ⟨hrel, rfl⟩ := hI
  obtain ⟨k, n, y, rfl, rfl, hk, hn0, hn1, hgo, hse, hc9, cf, hsz, hbw⟩ := hrel
  by_cases hkl : k < l.length
  · obtain ⟨a, ha⟩ := get_some hkl
    by_cases hbad : a.wait.1 < 0 ∨ 1000000 < a.wait.1 ∨ 1125899906842624 - a.wait.1 < n.1
    · exact round_bad x A c l w hr hG hok hnl hl k n y wr hkl hn0 hn1 hgo hse hc9 cf hsz hbw a ha hbad _ _ _ _ _ _ _ _ _ _ _ _ _ _ _ _ _ _ _ _ _ _ _ _ _ _ _ _ _ _ _ _ _ _ _ _ _ _ _ _ _ _ _ _ _ _ _ _ _ _ _ _ _ _ _ _ _ _ _ _ _ _ _ _ _ _ _ _ _ _ _ _ _ _ _ _ _ _ _ _ _ _ _ _ _ _ _ _ _ _ _ _ _ _ _ _ _ _ _ _ _ _ _ _ _ _ _ _ _ _ _ _ _ _ _ _ _ _ _ _ _ _ _ _ _ _ _ _ _ _ _ _ _ _ _ _ _ _ _ _ _ _ _ _ _ _ _ _ _ _ _ _ _ _ _ _ _ _ _ _ _ _ _ _ _ _ _ _ _ _ _ _ _ _ _ _ _ _ _ _ _ _ _ _ _ _ _ _ _ _ _ _ Q0 hret
    · have w1' : 0 ≤ a.wait.1 := by omega
      have w2' : a.wait.1 ≤ 1000000 := by omega
      have w3' : n.1 ≤ 1125899906842624 - a.wait.1 := by omega
      by_cases hk0 : a.kind.1 = 0
      · exact round_step x A c l w hr hG hok hnl hl k n y wr hkl hn0 hn1 hgo hse hc9 cf hsz hbw a ha w1' w2' w3' hk0 _ _ _ _ _ _ _ _ _ _ _ _ _ _ _ _ _ _ _ _ _ _ _ _ _ _ _ _ _ _ _ _ _ _ _ _ _ _ _ _ _ _ _ _ _ _ _ _ _ _ _ _ _ _ _ _ _ _ _ _ _ _ _ _ _ _ _ _ _ _ _ _ _ _ _ _ _ _ _ _ _ _ _ _ _ _ _ _ _ _ _ _ _ _ _ _ _ _ _ _ _ _ _ _ _ _ _ _ _ _ _ _ _ _ _ _ _ _ _ _ _ _ _ _ _ _ _ _ _ _ _ _ _ _ _ _ _ _ _ _ _ _ _ _ _ _ _ _ _ _ _ _ _ _ _ _ _ _ _ _ _ _ _ _ _ _ _ _ _ _ _ _ _ _ _ _ _ _ _ _ _ _ _ _ _ _ _ _ _ _ _ _ Q0
      · by_cases hk1 : a.kind.1 = 1
        · exact round_attach x A c l w hr hG hok hnl hl k n y wr hkl hn0 hn1 hgo hse hc9 cf hsz hbw a ha w1' w2' w3' hk0 hk1 _ _ _ _ _ _ _ _ _ _ _ _ _ _ _ _ _ _ _ _ _ _ _ _ _ _ _ _ _ _ _ _ _ _ _ _ _ _ _ _ _ _ _ _ _ _ _ _ _ _ _ _ _ _ _ _ _ _ _ _ _ _ _ _ _ _ _ _ _ _ _ _ _ _ _ _ _ _ _ _ _ _ _ _ _ _ _ _ _ _ _ _ _ _ _ _ _ _ _ _ _ _ _ _ _ _ _ _ _ _ _ _ _ _ _ _ _ _ _ _ _ _ _ _ _ _ _ _ _ _ _ _ _ _ _ _ _ _ _ _ _ _ _ _ _ _ _ _ _ _ _ _ _ _ _ _ _ _ _ _ _ _ _ _ _ _ _ _ _ _ _ _ _ _ _ _ _ _ _ _ _ _ _ _ _ _ _ _ _ _ _ _ Q0
        · by_cases hk2 : a.kind.1 = 2
          · exact round_detach x A c l w hr hG hok hnl hl k n y wr hkl hn0 hn1 hgo hse hc9 cf hsz hbw a ha w1' w2' w3' hk0 hk1 hk2 _ _ _ _ _ _ _ _ _ _ _ _ _ _ _ _ _ _ _ _ _ _ _ _ _ _ _ _ _ _ _ _ _ _ _ _ _ _ _ _ _ _ _ _ _ _ _ _ _ _ _ _ _ _ _ _ _ _ _ _ _ _ _ _ _ _ _ _ _ _ _ _ _ _ _ _ _ _ _ _ _ _ _ _ _ _ _ _ _ _ _ _ _ _ _ _ _ _ _ _ _ _ _ _ _ _ _ _ _ _ _ _ _ _ _ _ _ _ _ _ _ _ _ _ _ _ _ _ _ _ _ _ _ _ _ _ _ _ _ _ _ _ _ _ _ _ _ _ _ _ _ _ _ _ _ _ _ _ _ _ _ _ _ _ _ _ _ _ _ _ _ _ _ _ _ _ _ _ _ _ _ _ _ _ _ _ _ _ _ _ _ _ Q0
          · exact round_other x A c l w hr hG hok hnl hl k n y wr hkl hn0 hn1 hgo hse hc9 cf hsz hbw a ha w1' w2' w3' hk0 hk1 hk2 _ _ _ _ _ _ _ _ _ _ _ _ _ _ _ _ _ _ _ _ _ _ _ _ _ _ _ _ _ _ _ _ _ _ _ _ _ _ _ _ _ _ _ _ _ _ _ _ _ _ _ _ _ _ _ _ _ _ _ _ _ _ _ _ _ _ _ _ _ _ _ _ _ _ _ _ _ _ _ _ _ _ _ _ _ _ _ _ _ _ _ _ _ _ _ _ _ _ _ _ _ _ _ _ _ _ _ _ _ _ _ _ _ _ _ _ _ _ _ _ _ _ _ _ _ _ _ _ _ _ _ _ _ _ _ _ _ _ _ _ _ _ _ _ _ _ _ _ _ _ _ _ _ _ _ _ _ _ _ _ _ _ _ _ _ _ _ _ _ _ _ _ _ _ _ _ _ _ _ _ _ _ _ _ _ _ _ _ _ _ _ _ Q0
  · exact round_end x A c l w hr hG hok hnl hl k n wr hk hkl hbw _ _ _ _ _ _ _ _ _ _ _ _ _ _ _ _ _ _ _ _ _ _ _ _ _ _ _ _ _ _ _ _ _ _ _ _ _ _ _ _ _ _ _ _ _ _ _ _ _ _ _ _ _ _ _ _ _ _ _ _ _ _ _ _ _ _ _ _ _ _ _ _ _ _ _ _ _ _ _ _ _ _ _ _ _ _ _ _ _ _ _ _ _ _ _ _ _ _ _ _ _ _ _ _ _ _ _ _ _ _ _ _ _ _ _ _ _ _ _ _ _ _ _ _ _ _ _ _ _ _ _ _ _ _ _ _ _ _ _ _ _ _ _ _ _ _ _ _ _ _ _ _ _ _ _ _ _ _ _ _ _ _ _ _ _ _ _ _ _ _ _ _ _ _ _ _ _ _ _ _ _ _ _ _ _ _ _ _ _ _ _ _ Q0 hexit
set_option maxRecDepth 1000000 in
theorem loop (x : Work) (A : Option Addr) (c : Nat) (l : List Mov) (w : World) (hr : Rw movE 4 w w.heap.size A l) (hG : Glob w) (hok : LabOk x) (hnl : x.labs.length ≤ 1000000 ∧ x.toks.length ≤ 1000000) (hl : l.length ≤ 60) {z0 z3 z11 z12 z13 z14 z15 z16 z17 z18 z19 z20 z21 z22 z23 z24 z25 z26 z195 : Value} {u4 u5 u6 u7 u8 u9 u10 u27 u28 u29 u30 u31 u32 u33 u34 u35 u36 u37 u38 u39 u40 u41 u42 u43 u44 u45 u46 u47 u48 u49 u50 u51 u52 u53 u54 u55 u56 u57 u58 u59 u60 u61 u62 u63 u64 u65 u66 u67 u68 u69 u70 u71 u72 u73 u74 u75 u76 u77 u78 u79 u80 u81 u82 u83 u84 u85 u86 u87 u88 u89 u90 u91 u92 u93 u94 u95 u96 u97 u98 u99 u100 u101 u102 u103 u104 u105 u106 u107 u108 u109 u110 u111 u112 u113 u114 u115 u116 u117 u118 u119 u120 u121 u122 u123 u124 u125 u126 u127 u128 u129 u130 u131 u132 u133 u134 u135 u136 u137 u138 u139 u140 u141 u142 u143 u144 u145 u146 u147 u148 u149 u150 u151 u152 u153 u154 u155 u156 u157 u158 u159 u160 u161 u162 u163 u164 u165 u166 u167 u168 u169 u170 u171 u172 u173 u174 u175 u176 u177 u178 u179 u180 u181 u182 u183 u184 u185 u186 u187 u188 u189 u190 u191 u192 u193 u194 : Value} {Q0 : Exit → Act → World → Prop} {wr : World} (hrel : WR x l w u5 u6 wr) (hret : ∀ a' w', WT w a' w' → Q0 .ret a' w') (hexit : ∀ a' w', WX w l A c z0 z3 z11 z12 z13 z14 z15 z16 z17 z18 z19 z20 z21 z22 z23 z24 z25 z26 z195 a' w' → Q0 (.exit 0) a' w') :
    Code.wp Tryd.prog (Code.loop body) Q0 (⟨#[z0, (.slice A l.length c), (.pointer (some ⟨w.heap.size, 0, none⟩)), z3, u4, u5, u6, u7, u8, u9, u10, z11, z12, z13, z14, z15, z16, z17, z18, z19, z20, z21, z22, z23, z24, z25, z26, u27, u28, u29, u30, u31, u32, u33, u34, u35, u36, u37, u38, u39, u40, u41, u42, u43, u44, u45, u46, u47, u48, u49, u50, u51, u52, u53, u54, u55, u56, u57, u58, u59, u60, u61, u62, u63, u64, u65, u66, u67, u68, u69, u70, u71, u72, u73, u74, u75, u76, u77, u78, u79, u80, u81, u82, u83, u84, u85, u86, u87, u88, u89, u90, u91, u92, u93, u94, u95, u96, u97, u98, u99, u100, u101, u102, u103, u104, u105, u106, u107, u108, u109, u110, u111, u112, u113, u114, u115, u116, u117, u118, u119, u120, u121, u122, u123, u124, u125, u126, u127, u128, u129, u130, u131, u132, u133, u134, u135, u136, u137, u138, u139, u140, u141, u142, u143, u144, u145, u146, u147, u148, u149, u150, u151, u152, u153, u154, u155, u156, u157, u158, u159, u160, u161, u162, u163, u164, u165, u166, u167, u168, u169, u170, u171, u172, u173, u174, u175, u176, u177, u178, u179, u180, u181, u182, u183, u184, u185, u186, u187, u188, u189, u190, u191, u192, u193, u194, z195], []⟩ : Act) wr := by
  refine wp_loop (WI x l w A c z0 z3 z11 z12 z13 z14 z15 z16 z17 z18 z19 z20 z21 z22 z23 z24 z25 z26 z195) (Wmu l) ?_ (fun a' w' hI => round x A c l w hr hG hok hnl hl z0 z3 z11 z12 z13 z14 z15 z16 z17 z18 z19 z20 z21 z22 z23 z24 z25 z26 z195 Q0 hret hexit a' w' hI)
  unfold WI
  exact ⟨u4, u5, u6, u7, u8, u9, u10, u27, u28, u29, u30, u31, u32, u33, u34, u35, u36, u37, u38, u39, u40, u41, u42, u43, u44, u45, u46, u47, u48, u49, u50, u51, u52, u53, u54, u55, u56, u57, u58, u59, u60, u61, u62, u63, u64, u65, u66, u67, u68, u69, u70, u71, u72, u73, u74, u75, u76, u77, u78, u79, u80, u81, u82, u83, u84, u85, u86, u87, u88, u89, u90, u91, u92, u93, u94, u95, u96, u97, u98, u99, u100, u101, u102, u103, u104, u105, u106, u107, u108, u109, u110, u111, u112, u113, u114, u115, u116, u117, u118, u119, u120, u121, u122, u123, u124, u125, u126, u127, u128, u129, u130, u131, u132, u133, u134, u135, u136, u137, u138, u139, u140, u141, u142, u143, u144, u145, u146, u147, u148, u149, u150, u151, u152, u153, u154, u155, u156, u157, u158, u159, u160, u161, u162, u163, u164, u165, u166, u167, u168, u169, u170, u171, u172, u173, u174, u175, u176, u177, u178, u179, u180, u181, u182, u183, u184, u185, u186, u187, u188, u189, u190, u191, u192, u193, u194, hrel, rfl⟩
/-- A frame that returns true. -/
theorem wt_ret {w w' : World} {a' : Act} (h4 : a'.tmps.getD 4 undef = .bool true) (hd : a'.defers = []) (hb : Below w.heap.size w w') : bodyPost Tryd.prog Tryd.f8 (fun e w' => e = .returned (.bool true) ∧ Below w.heap.size w w') .ret a' w' := by
  obtain ⟨ts, ds⟩ := a'
  simp only at h4 hd
  subst hd
  exact bodyPost_ret (v := .bool true) (by rw [Array.getD_eq_getD_getElem?] at h4; simp [results, Tryd.results8, h4]) rfl ⟨rfl, hb⟩
set_option maxRecDepth 100000 in
set_option maxHeartbeats 64000000 in
theorem walk (x : Work) (A : Option Addr) (c : Nat) (l : List Mov) (w : World) (hx : LabWork w w.heap.size x) (hr : Rw movE 4 w w.heap.size A l) (hn : l.length ≤ 9223372036854775807) (hG : Glob w) :
    Calls Tryd.prog 8 #[(.agg #[.string x.id.1, .slice x.labsA x.labs.length x.labsC, .int .i64 x.trust.1, .int .i64 x.slots.1, .bool x.pre, .int .i64 x.phase.1, .int .i64 x.beat.1, .int .i64 x.till.1, .slice x.toksA x.toks.length x.toksC]), .slice A l.length c] w fun e w' => e = .returned (.bool true) ∧ Below w.heap.size w w' := by
  have hxd : Hid (∀ W, Below w.heap.size w W → LabWork W W.heap.size x) := Lib.hid fun W hb => (hx.below hb (Nat.le_refl _)).more hb.size
  have hsh : ∀ W, Below w.heap.size w W → Calls Tryd.prog 9 #[(.agg #[.string x.id.1, .slice x.labsA x.labs.length x.labsC, .int .i64 x.trust.1, .int .i64 x.slots.1, .bool x.pre, .int .i64 x.phase.1, .int .i64 x.beat.1, .int .i64 x.till.1, .slice x.toksA x.toks.length x.toksC])] W fun e w' => e = .returned (.bool (shortB x)) ∧ Below W.heap.size W w' := fun W hb => short_any x W (hxd.out W hb)
  clear hx
  rcases hs : shortB x with _ | _
  · rw [hs] at hsh
    have hsb := Lib.hid hsh
    clear hsh
    replace hs := Lib.hid hs
    replace hG := Lib.hid hG
    go_enter Tryd.func8, Tryd.ntmps8
    go_wp2_with (first | (go_at_call 9; go_must (refine (hsb.out _ (by repeat (first | (with_reducible exact Below.refl _ _) | (with_reducible refine Below.drew ?_) | (with_reducible refine below_drewN ?_ _) | ((with_reducible refine Below.alloc ?_ ?_ _); rotate_left; focus ((try simp) <;> omega)) | ((with_reducible refine Below.setCell ?_ ?_ _); rotate_left; focus ((try simp) <;> omega)) | ((with_reducible refine Below.trans ?_ (Below.mono (by assumption) ?_)); rotate_left; focus ((try simp) <;> omega))))).mono ?_; rintro e w1 ⟨rfl, hb1⟩; have hz1 := hb1.size; (try simp at hz1); have hz1a : w.heap.size < w1.heap.size := (by omega); obtain ⟨hc1, hf1⟩ := blk_at hb1 w.heap.size (by (try simp) <;> omega))) | (go_at_call 12; go_must (refine (awake_any _ (hG.out.keep (by repeat (first | (with_reducible exact Below.refl _ _) | (with_reducible refine Below.drew ?_) | (with_reducible refine below_drewN ?_ _) | ((with_reducible refine Below.alloc ?_ ?_ _); rotate_left; focus ((try simp) <;> omega)) | ((with_reducible refine Below.setCell ?_ ?_ _); rotate_left; focus ((try simp) <;> omega)) | ((with_reducible refine Below.trans ?_ (Below.mono (by assumption) ?_)); rotate_left; focus ((try simp) <;> omega)))))).mono ?_; rintro e w9 ⟨rfl, hb9⟩)))
    go_ret
    exact ⟨rfl, (by repeat (first | (with_reducible exact Below.refl _ _) | (with_reducible refine Below.drew ?_) | (with_reducible refine below_drewN ?_ _) | ((with_reducible refine Below.alloc ?_ ?_ _); rotate_left; focus ((try simp) <;> omega)) | ((with_reducible refine Below.setCell ?_ ?_ _); rotate_left; focus ((try simp) <;> omega)) | ((with_reducible refine Below.trans ?_ (Below.mono (by assumption) ?_)); rotate_left; focus ((try simp) <;> omega))))⟩
  obtain ⟨hok, hnl⟩ := short_ok hs
  rw [hs] at hsh
  have hsb := Lib.hid hsh
  clear hsh
  replace hs := Lib.hid hs
  have hva0 : ∀ W, Below w.heap.size w W → Calls Tryd.prog 10 #[(.agg #[.string x.id.1, .slice x.labsA x.labs.length x.labsC, .int .i64 x.trust.1, .int .i64 x.slots.1, .bool x.pre, .int .i64 x.phase.1, .int .i64 x.beat.1, .int .i64 x.till.1, .slice x.toksA x.toks.length x.toksC])] W fun e w' => e = .returned (.int .i64 (wErr x)) ∧ Below W.heap.size W w' := fun W hb => wvalid_any x W (hxd.out W hb) hok (hG.keep hb)
  by_cases hwe : wErr x = 0
  · rw [hwe] at hva0
    have hva := Lib.hid hva0
    clear hva0
    by_cases hl : l.length ≤ 60
    · have hlz : ¬ (l.length : Int) > 60 := by omega
      have hr60 := range_ok (wErr_ok hwe).2.2.1
      obtain ⟨_, _, _, _, _, _, hb0, hb1', _, _⟩ := hr60
      replace hr := Lib.hid hr
      replace hG := Lib.hid hG
      replace hok := Lib.hid hok
      replace hnl := Lib.hid hnl
      replace hwe := Lib.hid hwe
      go_enter Tryd.func8, Tryd.ntmps8
      go_wp2_with (first | (go_at_call 9; go_must (refine (hsb.out _ (by repeat (first | (with_reducible exact Below.refl _ _) | (with_reducible refine Below.drew ?_) | (with_reducible refine below_drewN ?_ _) | ((with_reducible refine Below.alloc ?_ ?_ _); rotate_left; focus ((try simp) <;> omega)) | ((with_reducible refine Below.setCell ?_ ?_ _); rotate_left; focus ((try simp) <;> omega)) | ((with_reducible refine Below.trans ?_ (Below.mono (by assumption) ?_)); rotate_left; focus ((try simp) <;> omega))))).mono ?_; rintro e w1 ⟨rfl, hb1⟩; have hz1 := hb1.size; (try simp at hz1); have hz1a : w.heap.size < w1.heap.size := (by omega); obtain ⟨hc1, hf1⟩ := blk_at hb1 w.heap.size (by (try simp) <;> omega))) | (go_at_call 10; go_must (refine (hva.out _ (by repeat (first | (with_reducible exact Below.refl _ _) | (with_reducible refine Below.drew ?_) | (with_reducible refine below_drewN ?_ _) | ((with_reducible refine Below.alloc ?_ ?_ _); rotate_left; focus ((try simp) <;> omega)) | ((with_reducible refine Below.setCell ?_ ?_ _); rotate_left; focus ((try simp) <;> omega)) | ((with_reducible refine Below.trans ?_ (Below.mono (by assumption) ?_)); rotate_left; focus ((try simp) <;> omega))))).mono ?_; rintro e w2 ⟨rfl, hb2⟩; have hz2 := hb2.size; (try simp at hz2); have hz2b : w.heap.size < w2.heap.size := (by omega); obtain ⟨hc2, hf2⟩ := blk_at hb2 w.heap.size (by (try simp) <;> omega))))
      have hx0 : Below w.heap.size w w2 := (by repeat (first | (with_reducible exact Below.refl _ _) | (with_reducible refine Below.drew ?_) | (with_reducible refine below_drewN ?_ _) | ((with_reducible refine Below.alloc ?_ ?_ _); rotate_left; focus ((try simp) <;> omega)) | ((with_reducible refine Below.setCell ?_ ?_ _); rotate_left; focus ((try simp) <;> omega)) | ((with_reducible refine Below.trans ?_ (Below.mono (by assumption) ?_)); rotate_left; focus ((try simp) <;> omega))))
      have hsx : Hid (Sep w.heap.size w2 x) := Lib.hid (Sep.old (hxd.out w (Below.refl _ _)) hx0 hz2b)
      have hB := Lib.hid hx0
      clear hx0
      refine loop x A c l w hr.out hG.out hok.out hnl.out hl ?hrel ?hret ?hexit
      case hrel => exact ⟨0, x.beat, x, rfl, rfl, Nat.zero_le _, hb0, hb1', ⟨hwe.out, rfl, rfl⟩, hsx.out, ⟨by go_simp, by go_simp, by go_simp, by go_simp, by go_simp, by go_simp, by go_simp, by go_simp, by go_simp⟩, by go_simp, hz2b, hB.out⟩
      case hret =>
        rintro a' w' ⟨h4, hd, hbw⟩
        exact wt_ret h4 hd hbw
      case hexit =>
        intro a' wr hX
        unfold WX at hX
        obtain ⟨u4, hX⟩ := hX
        obtain ⟨u5, hX⟩ := hX
        obtain ⟨u6, hX⟩ := hX
        obtain ⟨u7, hX⟩ := hX
        obtain ⟨u8, hX⟩ := hX
        obtain ⟨u9, hX⟩ := hX
        obtain ⟨u10, hX⟩ := hX
        obtain ⟨u27, hX⟩ := hX
        obtain ⟨u28, hX⟩ := hX
        obtain ⟨u29, hX⟩ := hX
        obtain ⟨u30, hX⟩ := hX
        obtain ⟨u31, hX⟩ := hX
        obtain ⟨u32, hX⟩ := hX
        obtain ⟨u33, hX⟩ := hX
        obtain ⟨u34, hX⟩ := hX
        obtain ⟨u35, hX⟩ := hX
        obtain ⟨u36, hX⟩ := hX
        obtain ⟨u37, hX⟩ := hX
        obtain ⟨u38, hX⟩ := hX
        obtain ⟨u39, hX⟩ := hX
        obtain ⟨u40, hX⟩ := hX
        obtain ⟨u41, hX⟩ := hX
        obtain ⟨u42, hX⟩ := hX
        obtain ⟨u43, hX⟩ := hX
        obtain ⟨u44, hX⟩ := hX
        obtain ⟨u45, hX⟩ := hX
        obtain ⟨u46, hX⟩ := hX
        obtain ⟨u47, hX⟩ := hX
        obtain ⟨u48, hX⟩ := hX
        obtain ⟨u49, hX⟩ := hX
        obtain ⟨u50, hX⟩ := hX
        obtain ⟨u51, hX⟩ := hX
        obtain ⟨u52, hX⟩ := hX
        obtain ⟨u53, hX⟩ := hX
        obtain ⟨u54, hX⟩ := hX
        obtain ⟨u55, hX⟩ := hX
        obtain ⟨u56, hX⟩ := hX
        obtain ⟨u57, hX⟩ := hX
        obtain ⟨u58, hX⟩ := hX
        obtain ⟨u59, hX⟩ := hX
        obtain ⟨u60, hX⟩ := hX
        obtain ⟨u61, hX⟩ := hX
        obtain ⟨u62, hX⟩ := hX
        obtain ⟨u63, hX⟩ := hX
        obtain ⟨u64, hX⟩ := hX
        obtain ⟨u65, hX⟩ := hX
        obtain ⟨u66, hX⟩ := hX
        obtain ⟨u67, hX⟩ := hX
        obtain ⟨u68, hX⟩ := hX
        obtain ⟨u69, hX⟩ := hX
        obtain ⟨u70, hX⟩ := hX
        obtain ⟨u71, hX⟩ := hX
        obtain ⟨u72, hX⟩ := hX
        obtain ⟨u73, hX⟩ := hX
        obtain ⟨u74, hX⟩ := hX
        obtain ⟨u75, hX⟩ := hX
        obtain ⟨u76, hX⟩ := hX
        obtain ⟨u77, hX⟩ := hX
        obtain ⟨u78, hX⟩ := hX
        obtain ⟨u79, hX⟩ := hX
        obtain ⟨u80, hX⟩ := hX
        obtain ⟨u81, hX⟩ := hX
        obtain ⟨u82, hX⟩ := hX
        obtain ⟨u83, hX⟩ := hX
        obtain ⟨u84, hX⟩ := hX
        obtain ⟨u85, hX⟩ := hX
        obtain ⟨u86, hX⟩ := hX
        obtain ⟨u87, hX⟩ := hX
        obtain ⟨u88, hX⟩ := hX
        obtain ⟨u89, hX⟩ := hX
        obtain ⟨u90, hX⟩ := hX
        obtain ⟨u91, hX⟩ := hX
        obtain ⟨u92, hX⟩ := hX
        obtain ⟨u93, hX⟩ := hX
        obtain ⟨u94, hX⟩ := hX
        obtain ⟨u95, hX⟩ := hX
        obtain ⟨u96, hX⟩ := hX
        obtain ⟨u97, hX⟩ := hX
        obtain ⟨u98, hX⟩ := hX
        obtain ⟨u99, hX⟩ := hX
        obtain ⟨u100, hX⟩ := hX
        obtain ⟨u101, hX⟩ := hX
        obtain ⟨u102, hX⟩ := hX
        obtain ⟨u103, hX⟩ := hX
        obtain ⟨u104, hX⟩ := hX
        obtain ⟨u105, hX⟩ := hX
        obtain ⟨u106, hX⟩ := hX
        obtain ⟨u107, hX⟩ := hX
        obtain ⟨u108, hX⟩ := hX
        obtain ⟨u109, hX⟩ := hX
        obtain ⟨u110, hX⟩ := hX
        obtain ⟨u111, hX⟩ := hX
        obtain ⟨u112, hX⟩ := hX
        obtain ⟨u113, hX⟩ := hX
        obtain ⟨u114, hX⟩ := hX
        obtain ⟨u115, hX⟩ := hX
        obtain ⟨u116, hX⟩ := hX
        obtain ⟨u117, hX⟩ := hX
        obtain ⟨u118, hX⟩ := hX
        obtain ⟨u119, hX⟩ := hX
        obtain ⟨u120, hX⟩ := hX
        obtain ⟨u121, hX⟩ := hX
        obtain ⟨u122, hX⟩ := hX
        obtain ⟨u123, hX⟩ := hX
        obtain ⟨u124, hX⟩ := hX
        obtain ⟨u125, hX⟩ := hX
        obtain ⟨u126, hX⟩ := hX
        obtain ⟨u127, hX⟩ := hX
        obtain ⟨u128, hX⟩ := hX
        obtain ⟨u129, hX⟩ := hX
        obtain ⟨u130, hX⟩ := hX
        obtain ⟨u131, hX⟩ := hX
        obtain ⟨u132, hX⟩ := hX
        obtain ⟨u133, hX⟩ := hX
        obtain ⟨u134, hX⟩ := hX
        obtain ⟨u135, hX⟩ := hX
        obtain ⟨u136, hX⟩ := hX
        obtain ⟨u137, hX⟩ := hX
        obtain ⟨u138, hX⟩ := hX
        obtain ⟨u139, hX⟩ := hX
        obtain ⟨u140, hX⟩ := hX
        obtain ⟨u141, hX⟩ := hX
        obtain ⟨u142, hX⟩ := hX
        obtain ⟨u143, hX⟩ := hX
        obtain ⟨u144, hX⟩ := hX
        obtain ⟨u145, hX⟩ := hX
        obtain ⟨u146, hX⟩ := hX
        obtain ⟨u147, hX⟩ := hX
        obtain ⟨u148, hX⟩ := hX
        obtain ⟨u149, hX⟩ := hX
        obtain ⟨u150, hX⟩ := hX
        obtain ⟨u151, hX⟩ := hX
        obtain ⟨u152, hX⟩ := hX
        obtain ⟨u153, hX⟩ := hX
        obtain ⟨u154, hX⟩ := hX
        obtain ⟨u155, hX⟩ := hX
        obtain ⟨u156, hX⟩ := hX
        obtain ⟨u157, hX⟩ := hX
        obtain ⟨u158, hX⟩ := hX
        obtain ⟨u159, hX⟩ := hX
        obtain ⟨u160, hX⟩ := hX
        obtain ⟨u161, hX⟩ := hX
        obtain ⟨u162, hX⟩ := hX
        obtain ⟨u163, hX⟩ := hX
        obtain ⟨u164, hX⟩ := hX
        obtain ⟨u165, hX⟩ := hX
        obtain ⟨u166, hX⟩ := hX
        obtain ⟨u167, hX⟩ := hX
        obtain ⟨u168, hX⟩ := hX
        obtain ⟨u169, hX⟩ := hX
        obtain ⟨u170, hX⟩ := hX
        obtain ⟨u171, hX⟩ := hX
        obtain ⟨u172, hX⟩ := hX
        obtain ⟨u173, hX⟩ := hX
        obtain ⟨u174, hX⟩ := hX
        obtain ⟨u175, hX⟩ := hX
        obtain ⟨u176, hX⟩ := hX
        obtain ⟨u177, hX⟩ := hX
        obtain ⟨u178, hX⟩ := hX
        obtain ⟨u179, hX⟩ := hX
        obtain ⟨u180, hX⟩ := hX
        obtain ⟨u181, hX⟩ := hX
        obtain ⟨u182, hX⟩ := hX
        obtain ⟨u183, hX⟩ := hX
        obtain ⟨u184, hX⟩ := hX
        obtain ⟨u185, hX⟩ := hX
        obtain ⟨u186, hX⟩ := hX
        obtain ⟨u187, hX⟩ := hX
        obtain ⟨u188, hX⟩ := hX
        obtain ⟨u189, hX⟩ := hX
        obtain ⟨u190, hX⟩ := hX
        obtain ⟨u191, hX⟩ := hX
        obtain ⟨u192, hX⟩ := hX
        obtain ⟨u193, hX⟩ := hX
        obtain ⟨u194, hX⟩ := hX
        obtain ⟨hbw, rfl⟩ := hX
        have hz := hbw.size
        go_wp2_with (go_at_call 12; go_must (refine (awake_any _ (hG.out.keep (by repeat (first | (with_reducible exact Below.refl _ _) | (with_reducible refine Below.drew ?_) | (with_reducible refine below_drewN ?_ _) | ((with_reducible refine Below.alloc ?_ ?_ _); rotate_left; focus ((try simp) <;> omega)) | ((with_reducible refine Below.setCell ?_ ?_ _); rotate_left; focus ((try simp) <;> omega)) | ((with_reducible refine Below.trans ?_ (Below.mono (by assumption) ?_)); rotate_left; focus ((try simp) <;> omega)))))).mono ?_; rintro e w9 ⟨rfl, hb9⟩))
        go_ret
        exact ⟨rfl, (by repeat (first | (with_reducible exact Below.refl _ _) | (with_reducible refine Below.drew ?_) | (with_reducible refine below_drewN ?_ _) | ((with_reducible refine Below.alloc ?_ ?_ _); rotate_left; focus ((try simp) <;> omega)) | ((with_reducible refine Below.setCell ?_ ?_ _); rotate_left; focus ((try simp) <;> omega)) | ((with_reducible refine Below.trans ?_ (Below.mono (by assumption) ?_)); rotate_left; focus ((try simp) <;> omega))))⟩
    · have hlz : (l.length : Int) > 60 := by omega
      replace hr := Lib.hid hr
      replace hG := Lib.hid hG
      replace hok := Lib.hid hok
      replace hnl := Lib.hid hnl
      replace hwe := Lib.hid hwe
      go_enter Tryd.func8, Tryd.ntmps8
      go_wp2_with (first | (go_at_call 9; go_must (refine (hsb.out _ (by repeat (first | (with_reducible exact Below.refl _ _) | (with_reducible refine Below.drew ?_) | (with_reducible refine below_drewN ?_ _) | ((with_reducible refine Below.alloc ?_ ?_ _); rotate_left; focus ((try simp) <;> omega)) | ((with_reducible refine Below.setCell ?_ ?_ _); rotate_left; focus ((try simp) <;> omega)) | ((with_reducible refine Below.trans ?_ (Below.mono (by assumption) ?_)); rotate_left; focus ((try simp) <;> omega))))).mono ?_; rintro e w1 ⟨rfl, hb1⟩; have hz1 := hb1.size; (try simp at hz1); have hz1a : w.heap.size < w1.heap.size := (by omega); obtain ⟨hc1, hf1⟩ := blk_at hb1 w.heap.size (by (try simp) <;> omega))) | (go_at_call 10; go_must (refine (hva.out _ (by repeat (first | (with_reducible exact Below.refl _ _) | (with_reducible refine Below.drew ?_) | (with_reducible refine below_drewN ?_ _) | ((with_reducible refine Below.alloc ?_ ?_ _); rotate_left; focus ((try simp) <;> omega)) | ((with_reducible refine Below.setCell ?_ ?_ _); rotate_left; focus ((try simp) <;> omega)) | ((with_reducible refine Below.trans ?_ (Below.mono (by assumption) ?_)); rotate_left; focus ((try simp) <;> omega))))).mono ?_; rintro e w2 ⟨rfl, hb2⟩; have hz2 := hb2.size; (try simp at hz2); have hz2b : w.heap.size < w2.heap.size := (by omega); obtain ⟨hc2, hf2⟩ := blk_at hb2 w.heap.size (by (try simp) <;> omega))) | (go_at_call 12; go_must (refine (awake_any _ (hG.out.keep (by repeat (first | (with_reducible exact Below.refl _ _) | (with_reducible refine Below.drew ?_) | (with_reducible refine below_drewN ?_ _) | ((with_reducible refine Below.alloc ?_ ?_ _); rotate_left; focus ((try simp) <;> omega)) | ((with_reducible refine Below.setCell ?_ ?_ _); rotate_left; focus ((try simp) <;> omega)) | ((with_reducible refine Below.trans ?_ (Below.mono (by assumption) ?_)); rotate_left; focus ((try simp) <;> omega)))))).mono ?_; rintro e w9 ⟨rfl, hb9⟩)))
      go_ret
      exact ⟨rfl, (by repeat (first | (with_reducible exact Below.refl _ _) | (with_reducible refine Below.drew ?_) | (with_reducible refine below_drewN ?_ _) | ((with_reducible refine Below.alloc ?_ ?_ _); rotate_left; focus ((try simp) <;> omega)) | ((with_reducible refine Below.setCell ?_ ?_ _); rotate_left; focus ((try simp) <;> omega)) | ((with_reducible refine Below.trans ?_ (Below.mono (by assumption) ?_)); rotate_left; focus ((try simp) <;> omega))))⟩
  · have hne : (wErr x != 0) = true := by rw [bne_iff_ne]; exact hwe
    generalize wErr x = E at *
    have hva := Lib.hid hva0
    clear hva0
    replace hr := Lib.hid hr
    replace hG := Lib.hid hG
    replace hok := Lib.hid hok
    replace hnl := Lib.hid hnl
    replace hwe := Lib.hid hwe
    go_enter Tryd.func8, Tryd.ntmps8
    go_wp2_with (first | (go_at_call 9; go_must (refine (hsb.out _ (by repeat (first | (with_reducible exact Below.refl _ _) | (with_reducible refine Below.drew ?_) | (with_reducible refine below_drewN ?_ _) | ((with_reducible refine Below.alloc ?_ ?_ _); rotate_left; focus ((try simp) <;> omega)) | ((with_reducible refine Below.setCell ?_ ?_ _); rotate_left; focus ((try simp) <;> omega)) | ((with_reducible refine Below.trans ?_ (Below.mono (by assumption) ?_)); rotate_left; focus ((try simp) <;> omega))))).mono ?_; rintro e w1 ⟨rfl, hb1⟩; have hz1 := hb1.size; (try simp at hz1); have hz1a : w.heap.size < w1.heap.size := (by omega); obtain ⟨hc1, hf1⟩ := blk_at hb1 w.heap.size (by (try simp) <;> omega))) | (go_at_call 10; go_must (refine (hva.out _ (by repeat (first | (with_reducible exact Below.refl _ _) | (with_reducible refine Below.drew ?_) | (with_reducible refine below_drewN ?_ _) | ((with_reducible refine Below.alloc ?_ ?_ _); rotate_left; focus ((try simp) <;> omega)) | ((with_reducible refine Below.setCell ?_ ?_ _); rotate_left; focus ((try simp) <;> omega)) | ((with_reducible refine Below.trans ?_ (Below.mono (by assumption) ?_)); rotate_left; focus ((try simp) <;> omega))))).mono ?_; rintro e w2 ⟨rfl, hb2⟩; have hz2 := hb2.size; (try simp at hz2); have hz2b : w.heap.size < w2.heap.size := (by omega); obtain ⟨hc2, hf2⟩ := blk_at hb2 w.heap.size (by (try simp) <;> omega))) | (go_at_call 12; go_must (refine (awake_any _ (hG.out.keep (by repeat (first | (with_reducible exact Below.refl _ _) | (with_reducible refine Below.drew ?_) | (with_reducible refine below_drewN ?_ _) | ((with_reducible refine Below.alloc ?_ ?_ _); rotate_left; focus ((try simp) <;> omega)) | ((with_reducible refine Below.setCell ?_ ?_ _); rotate_left; focus ((try simp) <;> omega)) | ((with_reducible refine Below.trans ?_ (Below.mono (by assumption) ?_)); rotate_left; focus ((try simp) <;> omega)))))).mono ?_; rintro e w9 ⟨rfl, hb9⟩)))
    go_ret
    exact ⟨rfl, (by repeat (first | (with_reducible exact Below.refl _ _) | (with_reducible refine Below.drew ?_) | (with_reducible refine below_drewN ?_ _) | ((with_reducible refine Below.alloc ?_ ?_ _); rotate_left; focus ((try simp) <;> omega)) | ((with_reducible refine Below.setCell ?_ ?_ _); rotate_left; focus ((try simp) <;> omega)) | ((with_reducible refine Below.trans ?_ (Below.mono (by assumption) ?_)); rotate_left; focus ((try simp) <;> omega))))⟩

/-- A world for the witness: the settled one, the listed tables holding what their initialisers lay. -/
noncomputable def laidWorld (os : Os) : World :=
  { World.holding Tryd.prog os ⟨#[], #[], []⟩ with heap := layAll Tryd.prog Rows.workerPlaysRow.laid (World.holding Tryd.prog os ⟨#[], #[], []⟩).heap }
theorem laid_met (os : Os) : laidMet Tryd.prog Rows.workerPlaysRow.laid ((laidWorld os).forCall (fun _ _ => 0) ⟨#[], #[(.agg #[.string ByteArray.empty, .slice none 0 0, .int .i64 0, .int .i64 0, .bool false, .int .i64 0, .int .i64 0, .int .i64 0, .slice none 0 0]), .slice none 0 0], []⟩).memory :=
  laidMet_of_run' 8 (by kernel_rfl) (by kernel_rfl)
theorem reads (os : Os) {H : Type} (enc : TypeId × Value → H) : ∃ places, DataW.whole enc Tryd.prog ((laidWorld os).forCall (fun _ _ => 0) ⟨#[], #[(.agg #[.string ByteArray.empty, .slice none 0 0, .int .i64 0, .int .i64 0, .bool false, .int .i64 0, .int .i64 0, .int .i64 0, .slice none 0 0]), .slice none 0 0], []⟩).memory Tryd.f8.params.toList Rows.workerPlaysSpec.vars false (#[(.agg #[.string ByteArray.empty, .slice none 0 0, .int .i64 0, .int .i64 0, .bool false, .int .i64 0, .int .i64 0, .int .i64 0, .slice none 0 0]), .slice none 0 0] : Array Value).toList 8 = some ([.agg [.lit (.string []), .nil, .lit (.int .i64 0), .lit (.int .i64 0), .lit (.bool false), .lit (.int .i64 0), .lit (.int .i64 0), .lit (.int .i64 0), .nil], .nil], [], places) :=
  ⟨[], by kernel_rfl⟩

set_option maxRecDepth 100000 in
theorem contract (H : Type) (enc : TypeId × Value → H) (W : World) (base : Nat) (args : Array Value) (ds gs : List (DataW H)) (before : List MemPlace)
    (hval : ∀ (j : Nat) t v, Tryd.f8.params[j]? = some t → args[j]? = some v → Value.okWide Tryd.prog W .any base t v)
    (hW : DataW.Whole enc Tryd.prog Tryd.f8.params.toList Rows.workerPlaysSpec.vars false W args.toList ds gs before) (hsh : W.ShapedOpen Tryd.prog) :
    Calls Tryd.prog 8 args W fun e W' => ∃ v, e = .returned v ∧ Rows.workerPlaysSpec.post enc Tryd.prog Tryd.f8 false true false false W args v W' := by
  have hG : Glob W := cell_of_shapedOpen_int (P := Tryd.prog) (g := 2) (t := 3) (zero := #[.int .i64 0]) hsh (of_decide_eq_true (by kernel_rfl)) (by kernel_rfl) rfl (by kernel_rfl) (by kernel_rfl) Tryd.underlying3
  have hW' := hW
  obtain ⟨p, q, hA0, hV, rfl, hfz, hnd⟩ := hW
  have hA : DataW.TrodAll enc Tryd.prog W 0 (fun _ => true) true Tryd.f8.params.toList args.toList ds p := hA0
  have hA1 := hA
  rw [Tryd.params8] at hA hval
  obtain ⟨rfl, rfl⟩ := trodVars_none hV
  simp only [List.append_nil] at hW'
  have hcall : Calls Tryd.prog 8 args W fun e w' => e = .returned (.bool true) ∧ Below W.heap.size W w' := by
    clear hA0 hV hfz hnd
    obtain ⟨v0, vs0, d0, ds0, p0, q0, hargs, rfl, rfl, h0, r0⟩ := trodAll_cons hA
    obtain ⟨v1, vs1, d1, ds1, p1, q1, rfl, rfl, rfl, h1, r1⟩ := trodAll_cons r0
    obtain ⟨rfl, rfl, rfl⟩ := trodAll_nil r1
    obtain rfl : args = #[v0, v1] := by cases args; simp_all
    obtain ⟨x, rfl, hx⟩ := open_valq Tryd.underlying25 workE_of (hval 0 25 v0 rfl rfl) h0
    obtain ⟨A, l, c, rfl, hlc, hcm, hr⟩ := open_rows movE_len (by omega) Tryd.underlying47 (by kernel_rfl) (fun fuel cs x h => movE_of fuel cs x h) (hval 1 47 v1 rfl rfl) h1
    unfold maxLen at hcm
    exact walk x A c l W hx hr (by omega) hG
  have hds : ds.length = 2 := (trodAll_length hA).1
  refine hcall.mono fun e W' ⟨he, hb⟩ => ?_
  subst he
  refine ⟨_, rfl, law_post hW' rfl hA1 (by kernel_rfl) laidOut Tryd.underlying4 (by kernel_rfl) ?_ hb⟩
  match ds, hds with
  | [_, _], _ => rfl

set_option maxRecDepth 100000 in
theorem lifted (os : Os) (started : os.Started) (H : Type) (enc : TypeId × Value → H) (F : Stop.Interp) :
    ReturnsInHanded {} Tryd.checked os 8 .any ((OpenSpec.ofChange Rows.workerPlaysSpec).preRow enc Tryd.prog Tryd.f8 Rows.workerPlaysRow.domain false Rows.workerPlaysRow.laid) (((OpenSpec.ofChange Rows.workerPlaysSpec).at F).post enc Tryd.prog Tryd.f8 false true false false) := by
  obtain ⟨places, hx⟩ := reads os enc
  refine returnsInHanded_of_row (C := Tryd.checked) (s := OpenSpec.ofChange Rows.workerPlaysSpec) own started (by kernel_rfl) Tryd.func8
    (witness_row_at (enc := enc) (C := Tryd.checked) false (laidWorld os) #[(.agg #[.string ByteArray.empty, .slice none 0 0, .int .i64 0, .int .i64 0, .bool false, .int .i64 0, .int .i64 0, .int .i64 0, .slice none 0 0]), .slice none 0 0] rfl (by kernel_rfl) (by kernel_rfl) (by kernel_rfl)
      (OpenSpec.preRow_of_cond 8 hx (by kernel_rfl) (fun k hk => by cases hk) (by kernel_rfl) (laid_met os))) ?_
  intro W base args ds gs before hval hW _ _ _ _ hsh _
  exact contract H enc W base args ds gs before hval hW hsh

theorem said : Rows.WorkerPlaysSaid :=
  OpenClaim.holds_of_cond 8 Tryd.f8 rfl rfl rfl rfl rfl rfl rfl ⟨rfl, rfl, rfl, rfl, rfl⟩ rfl rfl rfl rfl rfl (by kernel_rfl) Tryd.func8 (by kernel_rfl)
    (of_decide_eq_true (by kernel_rfl)) (by unfold Func.isWrapper; first | (rw [if_pos (by decide +kernel)]; kernel_rfl) | (rw [if_neg (by decide +kernel)]; exact ⟨rfl, rfl⟩))
    (fun os started H enc _ F => by rw [OpenClaim.pre_eq_preRow]; exact lifted os started H enc F)

theorem plain (f : FuncId) (fn : Func) (hf : Tryd.pinned.checked.prog.funcNamed Rows.workerPlaysRow.func = some f) (hfn : Tryd.pinned.checked.prog.funcs[f]? = some fn) :
    false = Tryd.pinned.checked.prog.looks [] ∧ ∀ (j : Nat) t, fn.params[j]? = some t → Tryd.pinned.checked.prog.wantsStandIn t = false := by
  obtain rfl : f = 8 := Option.some.inj ((show Tryd.prog.funcNamed Rows.workerPlaysRow.func = some 8 by kernel_rfl).symm.trans hf) |>.symm
  obtain rfl : fn = Tryd.f8 := (Option.some.inj (Tryd.func8.symm.trans hfn)).symm
  refine ⟨by kernel_rfl, fun j t ht => ?_⟩
  have hall : (Tryd.f8.params.toList.all fun t => !(Tryd.pinned.checked.prog.wantsStandIn t)) = true := by kernel_rfl
  have hm : t ∈ Tryd.f8.params.toList := Array.mem_toList_iff.2 (Array.mem_of_getElem? ht)
  simpa using List.all_eq_true.1 hall t hm

theorem proved : Rows.WorkerPlaysCardSaid :=
  Claim7.holds_tied_plain_at .later [] _ _ _ _ said (fun _ h => by cases h) (by kernel_rfl) (fun _ h => by cases h) workerPlays_row_tie rfl ⟨rfl, rfl⟩ (by kernel_rfl) rfl plain (by kernel_rfl)
#print axioms proved
end Go.Proofs.YtnahbfmbmpoljaaDoor.workerPlays
