import Derived.Test.YtdjnadnmlcpaaaaPlW
namespace Go.Proofs.Ytdjnadnmlcpaaaa
open Go.RowKit

set_option maxHeartbeats 4000000 in
set_option maxRecDepth 1000000 in
theorem pl_bad (w : World) (A : Option Addr) (cap : Nat) (q B9 p2 : Nat) (g : Geo) (L : List ActI) (c0 c3 c6 c24 c25 c26 c27 c28 c29 c30 c31 c32 c33 c34 c35 c36 c37 c38 c39 c40 c41 c42 c43 c44 c45 c46 c47 c48 c49 c50 c51 c52 c53 c54 c55 c56 c57 c58 c346 c347 c348 c349 c350 c351 c352 c353 : Value) (u4 u10 u11 u12 u13 u14 u15 u16 u17 u18 u19 u20 u21 u22 u23 u59 u60 u61 u62 u63 u64 u65 u66 u67 u68 u69 u70 u71 u72 u73 u74 u75 u76 u77 u78 u79 u80 u81 u82 u83 u84 u85 u86 u87 u88 u89 u90 u91 u92 u93 u94 u95 u96 u97 u98 u99 u100 u101 u102 u103 u104 u105 u106 u107 u108 u109 u110 u111 u112 u113 u114 u115 u116 u117 u118 u119 u120 u121 u122 u123 u124 u125 u126 u127 u128 u129 u130 u131 u132 u133 u134 u135 u136 u137 u138 u139 u140 u141 u142 u143 u144 u145 u146 u147 u148 u149 u150 u151 u152 u153 u154 u155 u156 u157 u158 u159 u160 u161 u162 u163 u164 u165 u166 u167 u168 u169 u170 u171 u172 u173 u174 u175 u176 u177 u178 u179 u180 u181 u182 u183 u184 u185 u186 u187 u188 u189 u190 u191 u192 u193 u194 u195 u196 u197 u198 u199 u200 u201 u202 u203 u204 u205 u206 u207 u208 u209 u210 u211 u212 u213 u214 u215 u216 u217 u218 u219 u220 u221 u222 u223 u224 u225 u226 u227 u228 u229 u230 u231 u232 u233 u234 u235 u236 u237 u238 u239 u240 u241 u242 u243 u244 u245 u246 u247 u248 u249 u250 u251 u252 u253 u254 u255 u256 u257 u258 u259 u260 u261 u262 u263 u264 u265 u266 u267 u268 u269 u270 u271 u272 u273 u274 u275 u276 u277 u278 u279 u280 u281 u282 u283 u284 u285 u286 u287 u288 u289 u290 u291 u292 u293 u294 u295 u296 u297 u298 u299 u300 u301 u302 u303 u304 u305 u306 u307 u308 u309 u310 u311 u312 u313 u314 u315 u316 u317 u318 u319 u320 u321 u322 u323 u324 u325 u326 u327 u328 u329 u330 u331 u332 u333 u334 u335 u336 u337 u338 u339 u340 u341 u342 u343 u344 u345 : Value) (wr : World) (k : Nat) (pv bv tv : Value) (bs : List Int) (T : List (Value × List (Int × Int))) (b o : Nat)
    (hk : k ≤ L.length) (hT : T.length ≤ k) (HS : Kp (St w wr q B9 p2 g pv bs bv bs tv T)) (HM : Kp (Sim g bs (T.map (·.2)))) (hA : A = some ⟨b, o, none⟩) (HA : ActsIn w b o L) (hlt : k < L.length) (hLL : L.length ≤ 30) (hsm : ∀ A n c, L[k]!.rv = .slice A n c → n ≤ 6) (hop : L[k]!.op = 0) (hbad : L[k]!.cl < 0 ∨ g.c ≤ L[k]!.cl ∨ L[k]!.n < 0 ∨ L[k]!.most < 1)
    (Q0 : Exit → Act → World → Prop) (hexit : ∀ a' w'', PWI w A cap q B9 p2 g L c0 c3 c6 c24 c25 c26 c27 c28 c29 c30 c31 c32 c33 c34 c35 c36 c37 c38 c39 c40 c41 c42 c43 c44 c45 c46 c47 c48 c49 c50 c51 c52 c53 c54 c55 c56 c57 c58 c346 c347 c348 c349 c350 c351 c352 c353 a' w'' → Q0 (.exit 0) a' w'') (hret : PRet w Q0) :
    Code.wp Try.prog plBody (Exit.then (fun a' w'' => PWI w A cap q B9 p2 g L c0 c3 c6 c24 c25 c26 c27 c28 c29 c30 c31 c32 c33 c34 c35 c36 c37 c38 c39 c40 c41 c42 c43 c44 c45 c46 c47 c48 c49 c50 c51 c52 c53 c54 c55 c56 c57 c58 c346 c347 c348 c349 c350 c351 c352 c353 a' w'' ∧ PMu L a' w'' < PMu L ⟨#[c0, .slice A L.length cap, .pointer (some ⟨p2, 0, none⟩), c3, u4, .pointer (some ⟨q, 0, none⟩), c6, .int .i64 g.from_, .int .i64 g.all, .pointer (some ⟨B9, 0, none⟩), tv, .int .i64 k, u12, u13, u14, u15, u16, u17, u18, u19, u20, u21, u22, u23, c24, c25, c26, c27, c28, c29, c30, c31, c32, c33, c34, c35, c36, c37, c38, c39, c40, c41, c42, c43, c44, c45, c46, c47, c48, c49, c50, c51, c52, c53, c54, c55, c56, c57, c58, u59, u60, u61, u62, u63, u64, u65, u66, u67, u68, u69, u70, u71, u72, u73, u74, u75, u76, u77, u78, u79, u80, u81, u82, u83, u84, u85, u86, u87, u88, u89, u90, u91, u92, u93, u94, u95, u96, u97, u98, u99, u100, u101, u102, u103, u104, u105, u106, u107, u108, u109, u110, u111, u112, u113, u114, u115, u116, u117, u118, u119, u120, u121, u122, u123, u124, u125, u126, u127, u128, u129, u130, u131, u132, u133, u134, u135, u136, u137, u138, u139, u140, u141, u142, u143, u144, u145, u146, u147, u148, u149, u150, u151, u152, u153, u154, u155, u156, u157, u158, u159, u160, u161, u162, u163, u164, u165, u166, u167, u168, u169, u170, u171, u172, u173, u174, u175, u176, u177, u178, u179, u180, u181, u182, u183, u184, u185, u186, u187, u188, u189, u190, u191, u192, u193, u194, u195, u196, u197, u198, u199, u200, u201, u202, u203, u204, u205, u206, u207, u208, u209, u210, u211, u212, u213, u214, u215, u216, u217, u218, u219, u220, u221, u222, u223, u224, u225, u226, u227, u228, u229, u230, u231, u232, u233, u234, u235, u236, u237, u238, u239, u240, u241, u242, u243, u244, u245, u246, u247, u248, u249, u250, u251, u252, u253, u254, u255, u256, u257, u258, u259, u260, u261, u262, u263, u264, u265, u266, u267, u268, u269, u270, u271, u272, u273, u274, u275, u276, u277, u278, u279, u280, u281, u282, u283, u284, u285, u286, u287, u288, u289, u290, u291, u292, u293, u294, u295, u296, u297, u298, u299, u300, u301, u302, u303, u304, u305, u306, u307, u308, u309, u310, u311, u312, u313, u314, u315, u316, u317, u318, u319, u320, u321, u322, u323, u324, u325, u326, u327, u328, u329, u330, u331, u332, u333, u334, u335, u336, u337, u338, u339, u340, u341, u342, u343, u344, u345, c346, c347, c348, c349, c350, c351, c352, c353], []⟩ wr) Q0) ⟨#[c0, .slice A L.length cap, .pointer (some ⟨p2, 0, none⟩), c3, u4, .pointer (some ⟨q, 0, none⟩), c6, .int .i64 g.from_, .int .i64 g.all, .pointer (some ⟨B9, 0, none⟩), tv, .int .i64 k, u12, u13, u14, u15, u16, u17, u18, u19, u20, u21, u22, u23, c24, c25, c26, c27, c28, c29, c30, c31, c32, c33, c34, c35, c36, c37, c38, c39, c40, c41, c42, c43, c44, c45, c46, c47, c48, c49, c50, c51, c52, c53, c54, c55, c56, c57, c58, u59, u60, u61, u62, u63, u64, u65, u66, u67, u68, u69, u70, u71, u72, u73, u74, u75, u76, u77, u78, u79, u80, u81, u82, u83, u84, u85, u86, u87, u88, u89, u90, u91, u92, u93, u94, u95, u96, u97, u98, u99, u100, u101, u102, u103, u104, u105, u106, u107, u108, u109, u110, u111, u112, u113, u114, u115, u116, u117, u118, u119, u120, u121, u122, u123, u124, u125, u126, u127, u128, u129, u130, u131, u132, u133, u134, u135, u136, u137, u138, u139, u140, u141, u142, u143, u144, u145, u146, u147, u148, u149, u150, u151, u152, u153, u154, u155, u156, u157, u158, u159, u160, u161, u162, u163, u164, u165, u166, u167, u168, u169, u170, u171, u172, u173, u174, u175, u176, u177, u178, u179, u180, u181, u182, u183, u184, u185, u186, u187, u188, u189, u190, u191, u192, u193, u194, u195, u196, u197, u198, u199, u200, u201, u202, u203, u204, u205, u206, u207, u208, u209, u210, u211, u212, u213, u214, u215, u216, u217, u218, u219, u220, u221, u222, u223, u224, u225, u226, u227, u228, u229, u230, u231, u232, u233, u234, u235, u236, u237, u238, u239, u240, u241, u242, u243, u244, u245, u246, u247, u248, u249, u250, u251, u252, u253, u254, u255, u256, u257, u258, u259, u260, u261, u262, u263, u264, u265, u266, u267, u268, u269, u270, u271, u272, u273, u274, u275, u276, u277, u278, u279, u280, u281, u282, u283, u284, u285, u286, u287, u288, u289, u290, u291, u292, u293, u294, u295, u296, u297, u298, u299, u300, u301, u302, u303, u304, u305, u306, u307, u308, u309, u310, u311, u312, u313, u314, u315, u316, u317, u318, u319, u320, u321, u322, u323, u324, u325, u326, u327, u328, u329, u330, u331, u332, u333, u334, u335, u336, u337, u338, u339, u340, u341, u342, u343, u344, u345, c346, c347, c348, c349, c350, c351, c352, c353], []⟩ wr := by
  subst hA
  have hltz : (k : Int) < (L.length : Int) := by omega
  have hfr := HS.out.frame
  obtain ⟨a0, a1, a2, a3, a4⟩ := HA.cell k hlt
  obtain ⟨⟨RA, rn, rc, hrv, hrn, hr6⟩, ⟨i1, i1'⟩, ⟨i2, i2'⟩, ⟨i3, i3'⟩, ⟨i4, i4'⟩⟩ := HA.runs k hlt
  have hbw := HA.blk
  replace a0 := (hfr.cell (by exact hbw)).trans a0
  replace a1 := (hfr.cell (by exact hbw)).trans a1
  replace a2 := (hfr.cell (by exact hbw)).trans a2
  replace a3 := (hfr.cell (by exact hbw)).trans a3
  replace a4 := (hfr.cell (by exact hbw)).trans a4
  have h6 : rn ≤ 6 := hsm _ _ _ hrv
  clear hsm
  rw [hrv] at a4 hr6
  generalize L[k]!.op = op at *
  generalize L[k]!.cl = cl at *
  generalize L[k]!.n = n at *
  generalize L[k]!.most = most at *
  generalize L[k]!.runs = runs at *
  clear hrv
  have HR6 := Kp.mk hr6
  have HAA := Kp.mk HA
  clear hr6 HA
  have hopb : (op == 0) = true := by simp [hop]
  clear hop
  obtain ⟨wx, hwx⟩ : ∃ wx, wx = wr.alloc (.cells #[.int .i64 op, .int .i64 cl, .int .i64 n, .int .i64 most, .slice RA rn rc] 40) := ⟨_, rfl⟩
  obtain ⟨X, hX⟩ : ∃ X, X = wr.heap.size := ⟨_, rfl⟩
  have HSX : Kp (St w wx q B9 p2 g pv bs bv bs tv T) := ⟨by rw [hwx]; exact HS.out.below ((Below.refl _ _).alloc (Nat.le_refl _) _)⟩
  have HX : Kp (Blk wx X 40 #[.int .i64 op, .int .i64 cl, .int .i64 n, .int .i64 most, .slice RA rn rc]) := ⟨by rw [hwx, hX]; exact Blk.new _ _ _⟩
  have hXw : w.heap.size ≤ X := by rw [hX]; exact hfr.size
  have hXl : X < wx.heap.size := Blk.lt HX.out
  have x0 : wx.cell? ⟨X, 0, none⟩ = some (.int .i64 op) := Blk.cell HX.out 0
  have x1 : wx.cell? ⟨X, 1, none⟩ = some (.int .i64 cl) := Blk.cell HX.out 1
  have x2 : wx.cell? ⟨X, 2, none⟩ = some (.int .i64 n) := Blk.cell HX.out 2
  have x3 : wx.cell? ⟨X, 3, none⟩ = some (.int .i64 most) := Blk.cell HX.out 3
  have x4 : wx.cell? ⟨X, 4, none⟩ = some (.slice RA rn rc) := Blk.cell HX.out 4
  conv => arg 2; whnf
  go_upto_region 15 with fail
  rw [← hwx, ← hX]
  clear hwx hX a0 a1 a2 a3 a4 HS
  have h6b : decide ((6 : Int) < (rn : Int)) = false := by simp; omega
  have HT : Kp _ := ⟨take_bad q g pv bs cl n most wx HSX.out.ok hbad⟩
  go_wp2_with fail
  refine HT.out.mono ?_
  rintro e w2 ⟨rfl, hb2⟩
  have HS2 : Kp (St w w2 q B9 p2 g pv bs bv bs tv T) := ⟨HSX.out.below hb2⟩
  have HX2 : Kp (Blk w2 X 40 _) := ⟨Blk.below HX.out hb2 hXl⟩
  replace x1 : w2.cell? ⟨X, 1, none⟩ = some (.int .i64 cl) := Blk.cell HX2.out 1
  replace x2 : w2.cell? ⟨X, 2, none⟩ = some (.int .i64 n) := Blk.cell HX2.out 2
  replace x3 : w2.cell? ⟨X, 3, none⟩ = some (.int .i64 most) := Blk.cell HX2.out 3
  have xg : w2.cell? ⟨p2, 2, none⟩ = some (.int .i64 g.c) := Blk.cell HS2.out.bx 2
  clear x0 x4 hb2 HT HSX HX
  obtain ⟨pv2, hpv2⟩ : ∃ z, z = pv := ⟨_, rfl⟩
  obtain ⟨bs2, hbs2⟩ : ∃ z, z = bs := ⟨_, rfl⟩
  obtain ⟨T2, hT2e⟩ : ∃ z, z = T := ⟨_, rfl⟩
  obtain ⟨tv2, htv2⟩ : ∃ z, z = tv := ⟨_, rfl⟩
  have HM2 : Kp (Sim g bs2 (T2.map (·.2))) := by rw [hbs2, hT2e]; exact HM
  rw [← hpv2, ← hbs2, ← hT2e, ← htv2] at HS2
  rw [← htv2]
  have hT2 : T2.length ≤ k + 1 := by rw [hT2e]; omega
  clear hpv2 hbs2 hT2e htv2 HM
  by_cases q1 : cl < 0
  · have q1b : decide (cl < 0) = true := by simpa using q1
    clear q1
    have hl3 := HS2.out.ok.len
    have hl4 := HS2.out.ok.pos
    obtain ⟨A9, c9, hv9, _, _⟩ := (Sl.of_own HS2.out.brow (by omega)).form (by omega)
    subst hv9
    go_upto_region 58 with fail
    go_wp2_with fail
    refine (bits_calls q g pv2 bs2 _ HS2.out.ok).mono ?_
    rintro e wb ⟨vb, rfl, hob, hbb⟩
    obtain ⟨Ab, cb, hvb, _, _⟩ := (Sl.of_own hob (by omega)).form (by omega)
    subst hvb
    obtain ⟨wn, hwn⟩ : ∃ wn, wn = wb.alloc (.cells #[.slice Ab bs2.length cb] 33) := ⟨_, rfl⟩
    obtain ⟨N, hN⟩ : ∃ N, N = wb.heap.size := ⟨_, rfl⟩
    have HS3 : Kp (St w wn q B9 p2 g pv2 bs2 (.slice A9 bs2.length c9) bs2 tv2 T2) := ⟨by rw [hwn]; exact (HS2.out.below hbb).below ((Below.refl _ _).alloc (Nat.le_refl _) _)⟩
    have HN : Kp (Blk wn N 33 #[.slice Ab bs2.length cb]) := ⟨by rw [hwn, hN]; exact Blk.new _ _ _⟩
    have HOB : Kp (SlI wn .u64 (.slice Ab bs2.length cb) bs2) := ⟨Sl.of_own (by rw [hwn]; exact hob.alloc _) (by omega)⟩
    have HO9 : Kp (SlI wn .u64 (.slice A9 bs2.length c9) bs2) := ⟨Sl.of_own HS3.out.brow (by omega)⟩
    obtain ⟨Ax, cx, hvx, hcb, hxb⟩ := HOB.out.form
    obtain ⟨⟩ := hvx
    obtain ⟨Ay, cy, hvy, hc9, hx9⟩ := HO9.out.form
    obtain ⟨⟩ := hvy
    obtain ⟨bb, ob, hAb, hbbl, hcb'⟩ := hxb (by omega)
    obtain ⟨b9, o9, hA9, hb9l, hc9'⟩ := hx9 (by omega)
    subst hAb hA9
    have HCB := Kp.mk hcb'
    have HC9 := Kp.mk hc9'
    have hNl : N < wn.heap.size := Blk.lt HN.out
    have hBl : B9 < wn.heap.size := HS3.out.b9len
    have n0 : wn.cell? ⟨N, 0, none⟩ = some (.slice (some ⟨bb, ob, none⟩) bs2.length cb) := Blk.cell HN.out 0
    have n9 : wn.cell? ⟨B9, 0, none⟩ = some (.slice (some ⟨b9, o9, none⟩) bs2.length c9) := Blk.cell HS3.out.b9 0
    go_upto_region 59 with fail
    rw [← hwn, ← hN]
    clear hxb hx9 hcb' hc9' hwn hN hob hbb HS2 HOB HO9
    go_wp2_with fail
    go_loopw [23] (fun x wr => ∃ j : Nat, j ≤ bs2.length ∧ x = .int .i64 j ∧ Kp (Below wn.heap.size wn wr)) (fun x _ => bs2.length - (intOf x).toNat)
    case atStart => exact ⟨0, Nat.zero_le _, rfl, ⟨Below.refl _ _⟩⟩
    case round =>
      obtain ⟨j, hj, rfl, HB⟩ := hrel
      have m0 : wr.cell? ⟨N, 0, none⟩ = some (.slice (some ⟨bb, ob, none⟩) bs2.length cb) := (HB.out.cell (by exact hNl)).trans n0
      have m9 : wr.cell? ⟨B9, 0, none⟩ = some (.slice (some ⟨b9, o9, none⟩) bs2.length c9) := (HB.out.cell (by exact hBl)).trans n9
      by_cases hjl : j < bs2.length
      · have y0 : wr.cell? ⟨bb, ob + j, none⟩ = some (.int .u64 (bs2.getD j 0)) := (HB.out.cell (by exact hbbl)).trans (HCB.out j hjl)
        have y9 : wr.cell? ⟨b9, o9 + j, none⟩ = some (.int .u64 (bs2.getD j 0)) := (HB.out.cell (by exact hb9l)).trans (HC9.out j hjl)
        generalize bs2.getD j 0 = y at y0 y9
        go_wp2_with fail
        go_quiet (fail)
        go_wp2_with fail
        exact ⟨⟨j + 1, by omega, by go_num, ⟨below_drewN HB.out _⟩⟩, by simp [intOf]; omega⟩
      · have HS4 : Kp (St w wr q B9 p2 g pv2 bs2 (.slice (some ⟨b9, o9, none⟩) bs2.length c9) bs2 tv2 T2) := ⟨HS3.out.below HB.out⟩
        clear HS3 HN HCB HC9
        go_wp2_with fail
        refine ⟨?_, by simp [PMu, intOf]; omega⟩
        unfold PWI
        refine ⟨_, _, _, _, _, _, _, _, _, _, _, _, _, _, _, _, _, _, _, _, _, _, _, _, _, _, _, _, _, _, _, _, _, _, _, _, _, _, _, _, _, _, _, _, _, _, _, _, _, _, _, _, _, _, _, _, _, _, _, _, _, _, _, _, _, _, _, _, _, _, _, _, _, _, _, _, _, _, _, _, _, _, _, _, _, _, _, _, _, _, _, _, _, _, _, _, _, _, _, _, _, _, _, _, _, _, _, _, _, _, _, _, _, _, _, _, _, _, _, _, _, _, _, _, _, _, _, _, _, _, _, _, _, _, _, _, _, _, _, _, _, _, _, _, _, _, _, _, _, _, _, _, _, _, _, _, _, _, _, _, _, _, _, _, _, _, _, _, _, _, _, _, _, _, _, _, _, _, _, _, _, _, _, _, _, _, _, _, _, _, _, _, _, _, _, _, _, _, _, _, _, _, _, _, _, _, _, _, _, _, _, _, _, _, _, _, _, _, _, _, _, _, _, _, _, _, _, _, _, _, _, _, _, _, _, _, _, _, _, _, _, _, _, _, _, _, _, _, _, _, _, _, _, _, _, _, _, _, _, _, _, _, _, _, _, _, _, _, _, _, _, _, _, _, _, _, _, _, _, _, _, _, _, _, _, _, _, _, _, _, _, _, _, _, _, _, _, _, _, _, _, _, ?_, rfl⟩
        exact ⟨k + 1, pv2, _, bs2, T2, by first | rfl | simp, by omega, hT2, HS4, HM2⟩

  · have q1b : decide (cl < 0) = false := by simpa using q1
    by_cases q2 : g.c ≤ cl
    · have q2b : decide (g.c ≤ cl) = true := by simpa using q2
      clear q1 q2 hbad
      have hl3 := HS2.out.ok.len
      have hl4 := HS2.out.ok.pos
      obtain ⟨A9, c9, hv9, _, _⟩ := (Sl.of_own HS2.out.brow (by omega)).form (by omega)
      subst hv9
      go_upto_region 58 with fail
      go_wp2_with fail
      refine (bits_calls q g pv2 bs2 _ HS2.out.ok).mono ?_
      rintro e wb ⟨vb, rfl, hob, hbb⟩
      obtain ⟨Ab, cb, hvb, _, _⟩ := (Sl.of_own hob (by omega)).form (by omega)
      subst hvb
      obtain ⟨wn, hwn⟩ : ∃ wn, wn = wb.alloc (.cells #[.slice Ab bs2.length cb] 33) := ⟨_, rfl⟩
      obtain ⟨N, hN⟩ : ∃ N, N = wb.heap.size := ⟨_, rfl⟩
      have HS3 : Kp (St w wn q B9 p2 g pv2 bs2 (.slice A9 bs2.length c9) bs2 tv2 T2) := ⟨by rw [hwn]; exact (HS2.out.below hbb).below ((Below.refl _ _).alloc (Nat.le_refl _) _)⟩
      have HN : Kp (Blk wn N 33 #[.slice Ab bs2.length cb]) := ⟨by rw [hwn, hN]; exact Blk.new _ _ _⟩
      have HOB : Kp (SlI wn .u64 (.slice Ab bs2.length cb) bs2) := ⟨Sl.of_own (by rw [hwn]; exact hob.alloc _) (by omega)⟩
      have HO9 : Kp (SlI wn .u64 (.slice A9 bs2.length c9) bs2) := ⟨Sl.of_own HS3.out.brow (by omega)⟩
      obtain ⟨Ax, cx, hvx, hcb, hxb⟩ := HOB.out.form
      obtain ⟨⟩ := hvx
      obtain ⟨Ay, cy, hvy, hc9, hx9⟩ := HO9.out.form
      obtain ⟨⟩ := hvy
      obtain ⟨bb, ob, hAb, hbbl, hcb'⟩ := hxb (by omega)
      obtain ⟨b9, o9, hA9, hb9l, hc9'⟩ := hx9 (by omega)
      subst hAb hA9
      have HCB := Kp.mk hcb'
      have HC9 := Kp.mk hc9'
      have hNl : N < wn.heap.size := Blk.lt HN.out
      have hBl : B9 < wn.heap.size := HS3.out.b9len
      have n0 : wn.cell? ⟨N, 0, none⟩ = some (.slice (some ⟨bb, ob, none⟩) bs2.length cb) := Blk.cell HN.out 0
      have n9 : wn.cell? ⟨B9, 0, none⟩ = some (.slice (some ⟨b9, o9, none⟩) bs2.length c9) := Blk.cell HS3.out.b9 0
      go_upto_region 59 with fail
      rw [← hwn, ← hN]
      clear hxb hx9 hcb' hc9' hwn hN hob hbb HS2 HOB HO9
      go_wp2_with fail
      go_loopw [23] (fun x wr => ∃ j : Nat, j ≤ bs2.length ∧ x = .int .i64 j ∧ Kp (Below wn.heap.size wn wr)) (fun x _ => bs2.length - (intOf x).toNat)
      case atStart => exact ⟨0, Nat.zero_le _, rfl, ⟨Below.refl _ _⟩⟩
      case round =>
        obtain ⟨j, hj, rfl, HB⟩ := hrel
        have m0 : wr.cell? ⟨N, 0, none⟩ = some (.slice (some ⟨bb, ob, none⟩) bs2.length cb) := (HB.out.cell (by exact hNl)).trans n0
        have m9 : wr.cell? ⟨B9, 0, none⟩ = some (.slice (some ⟨b9, o9, none⟩) bs2.length c9) := (HB.out.cell (by exact hBl)).trans n9
        by_cases hjl : j < bs2.length
        · have y0 : wr.cell? ⟨bb, ob + j, none⟩ = some (.int .u64 (bs2.getD j 0)) := (HB.out.cell (by exact hbbl)).trans (HCB.out j hjl)
          have y9 : wr.cell? ⟨b9, o9 + j, none⟩ = some (.int .u64 (bs2.getD j 0)) := (HB.out.cell (by exact hb9l)).trans (HC9.out j hjl)
          generalize bs2.getD j 0 = y at y0 y9
          go_wp2_with fail
          go_quiet (fail)
          go_wp2_with fail
          exact ⟨⟨j + 1, by omega, by go_num, ⟨below_drewN HB.out _⟩⟩, by simp [intOf]; omega⟩
        · have HS4 : Kp (St w wr q B9 p2 g pv2 bs2 (.slice (some ⟨b9, o9, none⟩) bs2.length c9) bs2 tv2 T2) := ⟨HS3.out.below HB.out⟩
          clear HS3 HN HCB HC9
          go_wp2_with fail
          refine ⟨?_, by simp [PMu, intOf]; omega⟩
          unfold PWI
          refine ⟨_, _, _, _, _, _, _, _, _, _, _, _, _, _, _, _, _, _, _, _, _, _, _, _, _, _, _, _, _, _, _, _, _, _, _, _, _, _, _, _, _, _, _, _, _, _, _, _, _, _, _, _, _, _, _, _, _, _, _, _, _, _, _, _, _, _, _, _, _, _, _, _, _, _, _, _, _, _, _, _, _, _, _, _, _, _, _, _, _, _, _, _, _, _, _, _, _, _, _, _, _, _, _, _, _, _, _, _, _, _, _, _, _, _, _, _, _, _, _, _, _, _, _, _, _, _, _, _, _, _, _, _, _, _, _, _, _, _, _, _, _, _, _, _, _, _, _, _, _, _, _, _, _, _, _, _, _, _, _, _, _, _, _, _, _, _, _, _, _, _, _, _, _, _, _, _, _, _, _, _, _, _, _, _, _, _, _, _, _, _, _, _, _, _, _, _, _, _, _, _, _, _, _, _, _, _, _, _, _, _, _, _, _, _, _, _, _, _, _, _, _, _, _, _, _, _, _, _, _, _, _, _, _, _, _, _, _, _, _, _, _, _, _, _, _, _, _, _, _, _, _, _, _, _, _, _, _, _, _, _, _, _, _, _, _, _, _, _, _, _, _, _, _, _, _, _, _, _, _, _, _, _, _, _, _, _, _, _, _, _, _, _, _, _, _, _, _, _, _, _, _, _, ?_, rfl⟩
          exact ⟨k + 1, pv2, _, bs2, T2, by first | rfl | simp, by omega, hT2, HS4, HM2⟩

    · have q2b : decide (g.c ≤ cl) = false := by simpa using q2
      by_cases q3 : n < 0
      · have q3b : decide (n < 0) = true := by simpa using q3
        clear q1 q2 q3 hbad
        have hl3 := HS2.out.ok.len
        have hl4 := HS2.out.ok.pos
        obtain ⟨A9, c9, hv9, _, _⟩ := (Sl.of_own HS2.out.brow (by omega)).form (by omega)
        subst hv9
        go_upto_region 58 with fail
        go_wp2_with fail
        refine (bits_calls q g pv2 bs2 _ HS2.out.ok).mono ?_
        rintro e wb ⟨vb, rfl, hob, hbb⟩
        obtain ⟨Ab, cb, hvb, _, _⟩ := (Sl.of_own hob (by omega)).form (by omega)
        subst hvb
        obtain ⟨wn, hwn⟩ : ∃ wn, wn = wb.alloc (.cells #[.slice Ab bs2.length cb] 33) := ⟨_, rfl⟩
        obtain ⟨N, hN⟩ : ∃ N, N = wb.heap.size := ⟨_, rfl⟩
        have HS3 : Kp (St w wn q B9 p2 g pv2 bs2 (.slice A9 bs2.length c9) bs2 tv2 T2) := ⟨by rw [hwn]; exact (HS2.out.below hbb).below ((Below.refl _ _).alloc (Nat.le_refl _) _)⟩
        have HN : Kp (Blk wn N 33 #[.slice Ab bs2.length cb]) := ⟨by rw [hwn, hN]; exact Blk.new _ _ _⟩
        have HOB : Kp (SlI wn .u64 (.slice Ab bs2.length cb) bs2) := ⟨Sl.of_own (by rw [hwn]; exact hob.alloc _) (by omega)⟩
        have HO9 : Kp (SlI wn .u64 (.slice A9 bs2.length c9) bs2) := ⟨Sl.of_own HS3.out.brow (by omega)⟩
        obtain ⟨Ax, cx, hvx, hcb, hxb⟩ := HOB.out.form
        obtain ⟨⟩ := hvx
        obtain ⟨Ay, cy, hvy, hc9, hx9⟩ := HO9.out.form
        obtain ⟨⟩ := hvy
        obtain ⟨bb, ob, hAb, hbbl, hcb'⟩ := hxb (by omega)
        obtain ⟨b9, o9, hA9, hb9l, hc9'⟩ := hx9 (by omega)
        subst hAb hA9
        have HCB := Kp.mk hcb'
        have HC9 := Kp.mk hc9'
        have hNl : N < wn.heap.size := Blk.lt HN.out
        have hBl : B9 < wn.heap.size := HS3.out.b9len
        have n0 : wn.cell? ⟨N, 0, none⟩ = some (.slice (some ⟨bb, ob, none⟩) bs2.length cb) := Blk.cell HN.out 0
        have n9 : wn.cell? ⟨B9, 0, none⟩ = some (.slice (some ⟨b9, o9, none⟩) bs2.length c9) := Blk.cell HS3.out.b9 0
        go_upto_region 59 with fail
        rw [← hwn, ← hN]
        clear hxb hx9 hcb' hc9' hwn hN hob hbb HS2 HOB HO9
        go_wp2_with fail
        go_loopw [23] (fun x wr => ∃ j : Nat, j ≤ bs2.length ∧ x = .int .i64 j ∧ Kp (Below wn.heap.size wn wr)) (fun x _ => bs2.length - (intOf x).toNat)
        case atStart => exact ⟨0, Nat.zero_le _, rfl, ⟨Below.refl _ _⟩⟩
        case round =>
          obtain ⟨j, hj, rfl, HB⟩ := hrel
          have m0 : wr.cell? ⟨N, 0, none⟩ = some (.slice (some ⟨bb, ob, none⟩) bs2.length cb) := (HB.out.cell (by exact hNl)).trans n0
          have m9 : wr.cell? ⟨B9, 0, none⟩ = some (.slice (some ⟨b9, o9, none⟩) bs2.length c9) := (HB.out.cell (by exact hBl)).trans n9
          by_cases hjl : j < bs2.length
          · have y0 : wr.cell? ⟨bb, ob + j, none⟩ = some (.int .u64 (bs2.getD j 0)) := (HB.out.cell (by exact hbbl)).trans (HCB.out j hjl)
            have y9 : wr.cell? ⟨b9, o9 + j, none⟩ = some (.int .u64 (bs2.getD j 0)) := (HB.out.cell (by exact hb9l)).trans (HC9.out j hjl)
            generalize bs2.getD j 0 = y at y0 y9
            go_wp2_with fail
            go_quiet (fail)
            go_wp2_with fail
            exact ⟨⟨j + 1, by omega, by go_num, ⟨below_drewN HB.out _⟩⟩, by simp [intOf]; omega⟩
          · have HS4 : Kp (St w wr q B9 p2 g pv2 bs2 (.slice (some ⟨b9, o9, none⟩) bs2.length c9) bs2 tv2 T2) := ⟨HS3.out.below HB.out⟩
            clear HS3 HN HCB HC9
            go_wp2_with fail
            refine ⟨?_, by simp [PMu, intOf]; omega⟩
            unfold PWI
            refine ⟨_, _, _, _, _, _, _, _, _, _, _, _, _, _, _, _, _, _, _, _, _, _, _, _, _, _, _, _, _, _, _, _, _, _, _, _, _, _, _, _, _, _, _, _, _, _, _, _, _, _, _, _, _, _, _, _, _, _, _, _, _, _, _, _, _, _, _, _, _, _, _, _, _, _, _, _, _, _, _, _, _, _, _, _, _, _, _, _, _, _, _, _, _, _, _, _, _, _, _, _, _, _, _, _, _, _, _, _, _, _, _, _, _, _, _, _, _, _, _, _, _, _, _, _, _, _, _, _, _, _, _, _, _, _, _, _, _, _, _, _, _, _, _, _, _, _, _, _, _, _, _, _, _, _, _, _, _, _, _, _, _, _, _, _, _, _, _, _, _, _, _, _, _, _, _, _, _, _, _, _, _, _, _, _, _, _, _, _, _, _, _, _, _, _, _, _, _, _, _, _, _, _, _, _, _, _, _, _, _, _, _, _, _, _, _, _, _, _, _, _, _, _, _, _, _, _, _, _, _, _, _, _, _, _, _, _, _, _, _, _, _, _, _, _, _, _, _, _, _, _, _, _, _, _, _, _, _, _, _, _, _, _, _, _, _, _, _, _, _, _, _, _, _, _, _, _, _, _, _, _, _, _, _, _, _, _, _, _, _, _, _, _, _, _, _, _, _, _, _, _, _, _, ?_, rfl⟩
            exact ⟨k + 1, pv2, _, bs2, T2, by first | rfl | simp, by omega, hT2, HS4, HM2⟩

      · have q3b : decide (n < 0) = false := by simpa using q3
        have q4 : most < 1 := by omega
        have q4b : decide (most < 1) = true := by simpa using q4
        clear q1 q2 q3 q4 hbad
        have hl3 := HS2.out.ok.len
        have hl4 := HS2.out.ok.pos
        obtain ⟨A9, c9, hv9, _, _⟩ := (Sl.of_own HS2.out.brow (by omega)).form (by omega)
        subst hv9
        go_upto_region 58 with fail
        go_wp2_with fail
        refine (bits_calls q g pv2 bs2 _ HS2.out.ok).mono ?_
        rintro e wb ⟨vb, rfl, hob, hbb⟩
        obtain ⟨Ab, cb, hvb, _, _⟩ := (Sl.of_own hob (by omega)).form (by omega)
        subst hvb
        obtain ⟨wn, hwn⟩ : ∃ wn, wn = wb.alloc (.cells #[.slice Ab bs2.length cb] 33) := ⟨_, rfl⟩
        obtain ⟨N, hN⟩ : ∃ N, N = wb.heap.size := ⟨_, rfl⟩
        have HS3 : Kp (St w wn q B9 p2 g pv2 bs2 (.slice A9 bs2.length c9) bs2 tv2 T2) := ⟨by rw [hwn]; exact (HS2.out.below hbb).below ((Below.refl _ _).alloc (Nat.le_refl _) _)⟩
        have HN : Kp (Blk wn N 33 #[.slice Ab bs2.length cb]) := ⟨by rw [hwn, hN]; exact Blk.new _ _ _⟩
        have HOB : Kp (SlI wn .u64 (.slice Ab bs2.length cb) bs2) := ⟨Sl.of_own (by rw [hwn]; exact hob.alloc _) (by omega)⟩
        have HO9 : Kp (SlI wn .u64 (.slice A9 bs2.length c9) bs2) := ⟨Sl.of_own HS3.out.brow (by omega)⟩
        obtain ⟨Ax, cx, hvx, hcb, hxb⟩ := HOB.out.form
        obtain ⟨⟩ := hvx
        obtain ⟨Ay, cy, hvy, hc9, hx9⟩ := HO9.out.form
        obtain ⟨⟩ := hvy
        obtain ⟨bb, ob, hAb, hbbl, hcb'⟩ := hxb (by omega)
        obtain ⟨b9, o9, hA9, hb9l, hc9'⟩ := hx9 (by omega)
        subst hAb hA9
        have HCB := Kp.mk hcb'
        have HC9 := Kp.mk hc9'
        have hNl : N < wn.heap.size := Blk.lt HN.out
        have hBl : B9 < wn.heap.size := HS3.out.b9len
        have n0 : wn.cell? ⟨N, 0, none⟩ = some (.slice (some ⟨bb, ob, none⟩) bs2.length cb) := Blk.cell HN.out 0
        have n9 : wn.cell? ⟨B9, 0, none⟩ = some (.slice (some ⟨b9, o9, none⟩) bs2.length c9) := Blk.cell HS3.out.b9 0
        go_upto_region 59 with fail
        rw [← hwn, ← hN]
        clear hxb hx9 hcb' hc9' hwn hN hob hbb HS2 HOB HO9
        go_wp2_with fail
        go_loopw [23] (fun x wr => ∃ j : Nat, j ≤ bs2.length ∧ x = .int .i64 j ∧ Kp (Below wn.heap.size wn wr)) (fun x _ => bs2.length - (intOf x).toNat)
        case atStart => exact ⟨0, Nat.zero_le _, rfl, ⟨Below.refl _ _⟩⟩
        case round =>
          obtain ⟨j, hj, rfl, HB⟩ := hrel
          have m0 : wr.cell? ⟨N, 0, none⟩ = some (.slice (some ⟨bb, ob, none⟩) bs2.length cb) := (HB.out.cell (by exact hNl)).trans n0
          have m9 : wr.cell? ⟨B9, 0, none⟩ = some (.slice (some ⟨b9, o9, none⟩) bs2.length c9) := (HB.out.cell (by exact hBl)).trans n9
          by_cases hjl : j < bs2.length
          · have y0 : wr.cell? ⟨bb, ob + j, none⟩ = some (.int .u64 (bs2.getD j 0)) := (HB.out.cell (by exact hbbl)).trans (HCB.out j hjl)
            have y9 : wr.cell? ⟨b9, o9 + j, none⟩ = some (.int .u64 (bs2.getD j 0)) := (HB.out.cell (by exact hb9l)).trans (HC9.out j hjl)
            generalize bs2.getD j 0 = y at y0 y9
            go_wp2_with fail
            go_quiet (fail)
            go_wp2_with fail
            exact ⟨⟨j + 1, by omega, by go_num, ⟨below_drewN HB.out _⟩⟩, by simp [intOf]; omega⟩
          · have HS4 : Kp (St w wr q B9 p2 g pv2 bs2 (.slice (some ⟨b9, o9, none⟩) bs2.length c9) bs2 tv2 T2) := ⟨HS3.out.below HB.out⟩
            clear HS3 HN HCB HC9
            go_wp2_with fail
            refine ⟨?_, by simp [PMu, intOf]; omega⟩
            unfold PWI
            refine ⟨_, _, _, _, _, _, _, _, _, _, _, _, _, _, _, _, _, _, _, _, _, _, _, _, _, _, _, _, _, _, _, _, _, _, _, _, _, _, _, _, _, _, _, _, _, _, _, _, _, _, _, _, _, _, _, _, _, _, _, _, _, _, _, _, _, _, _, _, _, _, _, _, _, _, _, _, _, _, _, _, _, _, _, _, _, _, _, _, _, _, _, _, _, _, _, _, _, _, _, _, _, _, _, _, _, _, _, _, _, _, _, _, _, _, _, _, _, _, _, _, _, _, _, _, _, _, _, _, _, _, _, _, _, _, _, _, _, _, _, _, _, _, _, _, _, _, _, _, _, _, _, _, _, _, _, _, _, _, _, _, _, _, _, _, _, _, _, _, _, _, _, _, _, _, _, _, _, _, _, _, _, _, _, _, _, _, _, _, _, _, _, _, _, _, _, _, _, _, _, _, _, _, _, _, _, _, _, _, _, _, _, _, _, _, _, _, _, _, _, _, _, _, _, _, _, _, _, _, _, _, _, _, _, _, _, _, _, _, _, _, _, _, _, _, _, _, _, _, _, _, _, _, _, _, _, _, _, _, _, _, _, _, _, _, _, _, _, _, _, _, _, _, _, _, _, _, _, _, _, _, _, _, _, _, _, _, _, _, _, _, _, _, _, _, _, _, _, _, _, _, _, _, ?_, rfl⟩
            exact ⟨k + 1, pv2, _, bs2, T2, by first | rfl | simp, by omega, hT2, HS4, HM2⟩
 
end Go.Proofs.Ytdjnadnmlcpaaaa
