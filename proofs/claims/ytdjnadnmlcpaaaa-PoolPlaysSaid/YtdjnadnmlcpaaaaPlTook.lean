import Derived.Test.YtdjnadnmlcpaaaaPlW
import Derived.Deep.RegionHeld3
namespace Go.Proofs.Ytdjnadnmlcpaaaa
open Go.RowKit

set_option maxHeartbeats 4000000 in
set_option maxRecDepth 1000000 in
theorem pl_took (w : World) (A : Option Addr) (cap : Nat) (q B9 p2 : Nat) (g : Geo) (L : List ActI) (c0 c3 c6 c24 c25 c26 c27 c28 c29 c30 c31 c32 c33 c34 c35 c36 c37 c38 c39 c40 c41 c42 c43 c44 c45 c46 c47 c48 c49 c50 c51 c52 c53 c54 c55 c56 c57 c58 c346 c347 c348 c349 c350 c351 c352 c353 : Value) (u4 u10 u11 u12 u13 u14 u15 u16 u17 u18 u19 u20 u21 u22 u23 u59 u60 u61 u62 u63 u64 u65 u66 u67 u68 u69 u70 u71 u72 u73 u74 u75 u76 u77 u78 u79 u80 u81 u82 u83 u84 u85 u86 u87 u88 u89 u90 u91 u92 u93 u94 u95 u96 u97 u98 u99 u100 u101 u102 u103 u104 u105 u106 u107 u108 u109 u110 u111 u112 u113 u114 u115 u116 u117 u118 u119 u120 u121 u122 u123 u124 u125 u126 u127 u128 u129 u130 u131 u132 u133 u134 u135 u136 u137 u138 u139 u140 u141 u142 u143 u144 u145 u146 u147 u148 u149 u150 u151 u152 u153 u154 u155 u156 u157 u158 u159 u160 u161 u162 u163 u164 u165 u166 u167 u168 u169 u170 u171 u172 u173 u174 u175 u176 u177 u178 u179 u180 u181 u182 u183 u184 u185 u186 u187 u188 u189 u190 u191 u192 u193 u194 u195 u196 u197 u198 u199 u200 u201 u202 u203 u204 u205 u206 u207 u208 u209 u210 u211 u212 u213 u214 u215 u216 u217 u218 u219 u220 u221 u222 u223 u224 u225 u226 u227 u228 u229 u230 u231 u232 u233 u234 u235 u236 u237 u238 u239 u240 u241 u242 u243 u244 u245 u246 u247 u248 u249 u250 u251 u252 u253 u254 u255 u256 u257 u258 u259 u260 u261 u262 u263 u264 u265 u266 u267 u268 u269 u270 u271 u272 u273 u274 u275 u276 u277 u278 u279 u280 u281 u282 u283 u284 u285 u286 u287 u288 u289 u290 u291 u292 u293 u294 u295 u296 u297 u298 u299 u300 u301 u302 u303 u304 u305 u306 u307 u308 u309 u310 u311 u312 u313 u314 u315 u316 u317 u318 u319 u320 u321 u322 u323 u324 u325 u326 u327 u328 u329 u330 u331 u332 u333 u334 u335 u336 u337 u338 u339 u340 u341 u342 u343 u344 u345 : Value) (wr : World) (k : Nat) (pv bv tv : Value) (bs : List Int) (T : List (Value × List (Int × Int))) (m : Nat) (b o : Nat)
    (hk : k ≤ L.length) (hT : T.length ≤ k) (HS : Kp (St w wr q B9 p2 g pv bs bv bs tv T)) (HM : Kp (Sim g bs (T.map (·.2)))) (hA : A = some ⟨b, o, none⟩) (HA : ActsIn w b o L) (hlt : k < L.length) (hLL : L.length ≤ 30) (hsm : ∀ A n c, L[k]!.rv = .slice A n c → n ≤ 6) (hop : L[k]!.op = 0) (hg1 : 0 ≤ L[k]!.cl) (hg2 : L[k]!.cl < g.c) (hg3 : 0 ≤ L[k]!.n) (hg4 : 1 ≤ L[k]!.most) (hfew : few (descL ((rowsL bs g).map (·.2))) L[k]!.n L[k]!.most.toNat = some m)
    (Q0 : Exit → Act → World → Prop) (hexit : ∀ a' w'', PWI w A cap q B9 p2 g L c0 c3 c6 c24 c25 c26 c27 c28 c29 c30 c31 c32 c33 c34 c35 c36 c37 c38 c39 c40 c41 c42 c43 c44 c45 c46 c47 c48 c49 c50 c51 c52 c53 c54 c55 c56 c57 c58 c346 c347 c348 c349 c350 c351 c352 c353 a' w'' → Q0 (.exit 0) a' w'') (hret : PRet w Q0) :
    Code.wp Try.prog plBody (Exit.then (fun a' w'' => PWI w A cap q B9 p2 g L c0 c3 c6 c24 c25 c26 c27 c28 c29 c30 c31 c32 c33 c34 c35 c36 c37 c38 c39 c40 c41 c42 c43 c44 c45 c46 c47 c48 c49 c50 c51 c52 c53 c54 c55 c56 c57 c58 c346 c347 c348 c349 c350 c351 c352 c353 a' w'' ∧ PMu L a' w'' < PMu L ⟨#[c0, .slice A L.length cap, .pointer (some ⟨p2, 0, none⟩), c3, u4, .pointer (some ⟨q, 0, none⟩), c6, .int .i64 g.from_, .int .i64 g.all, .pointer (some ⟨B9, 0, none⟩), tv, .int .i64 k, u12, u13, u14, u15, u16, u17, u18, u19, u20, u21, u22, u23, c24, c25, c26, c27, c28, c29, c30, c31, c32, c33, c34, c35, c36, c37, c38, c39, c40, c41, c42, c43, c44, c45, c46, c47, c48, c49, c50, c51, c52, c53, c54, c55, c56, c57, c58, u59, u60, u61, u62, u63, u64, u65, u66, u67, u68, u69, u70, u71, u72, u73, u74, u75, u76, u77, u78, u79, u80, u81, u82, u83, u84, u85, u86, u87, u88, u89, u90, u91, u92, u93, u94, u95, u96, u97, u98, u99, u100, u101, u102, u103, u104, u105, u106, u107, u108, u109, u110, u111, u112, u113, u114, u115, u116, u117, u118, u119, u120, u121, u122, u123, u124, u125, u126, u127, u128, u129, u130, u131, u132, u133, u134, u135, u136, u137, u138, u139, u140, u141, u142, u143, u144, u145, u146, u147, u148, u149, u150, u151, u152, u153, u154, u155, u156, u157, u158, u159, u160, u161, u162, u163, u164, u165, u166, u167, u168, u169, u170, u171, u172, u173, u174, u175, u176, u177, u178, u179, u180, u181, u182, u183, u184, u185, u186, u187, u188, u189, u190, u191, u192, u193, u194, u195, u196, u197, u198, u199, u200, u201, u202, u203, u204, u205, u206, u207, u208, u209, u210, u211, u212, u213, u214, u215, u216, u217, u218, u219, u220, u221, u222, u223, u224, u225, u226, u227, u228, u229, u230, u231, u232, u233, u234, u235, u236, u237, u238, u239, u240, u241, u242, u243, u244, u245, u246, u247, u248, u249, u250, u251, u252, u253, u254, u255, u256, u257, u258, u259, u260, u261, u262, u263, u264, u265, u266, u267, u268, u269, u270, u271, u272, u273, u274, u275, u276, u277, u278, u279, u280, u281, u282, u283, u284, u285, u286, u287, u288, u289, u290, u291, u292, u293, u294, u295, u296, u297, u298, u299, u300, u301, u302, u303, u304, u305, u306, u307, u308, u309, u310, u311, u312, u313, u314, u315, u316, u317, u318, u319, u320, u321, u322, u323, u324, u325, u326, u327, u328, u329, u330, u331, u332, u333, u334, u335, u336, u337, u338, u339, u340, u341, u342, u343, u344, u345, c346, c347, c348, c349, c350, c351, c352, c353], []⟩ wr) Q0) ⟨#[c0, .slice A L.length cap, .pointer (some ⟨p2, 0, none⟩), c3, u4, .pointer (some ⟨q, 0, none⟩), c6, .int .i64 g.from_, .int .i64 g.all, .pointer (some ⟨B9, 0, none⟩), tv, .int .i64 k, u12, u13, u14, u15, u16, u17, u18, u19, u20, u21, u22, u23, c24, c25, c26, c27, c28, c29, c30, c31, c32, c33, c34, c35, c36, c37, c38, c39, c40, c41, c42, c43, c44, c45, c46, c47, c48, c49, c50, c51, c52, c53, c54, c55, c56, c57, c58, u59, u60, u61, u62, u63, u64, u65, u66, u67, u68, u69, u70, u71, u72, u73, u74, u75, u76, u77, u78, u79, u80, u81, u82, u83, u84, u85, u86, u87, u88, u89, u90, u91, u92, u93, u94, u95, u96, u97, u98, u99, u100, u101, u102, u103, u104, u105, u106, u107, u108, u109, u110, u111, u112, u113, u114, u115, u116, u117, u118, u119, u120, u121, u122, u123, u124, u125, u126, u127, u128, u129, u130, u131, u132, u133, u134, u135, u136, u137, u138, u139, u140, u141, u142, u143, u144, u145, u146, u147, u148, u149, u150, u151, u152, u153, u154, u155, u156, u157, u158, u159, u160, u161, u162, u163, u164, u165, u166, u167, u168, u169, u170, u171, u172, u173, u174, u175, u176, u177, u178, u179, u180, u181, u182, u183, u184, u185, u186, u187, u188, u189, u190, u191, u192, u193, u194, u195, u196, u197, u198, u199, u200, u201, u202, u203, u204, u205, u206, u207, u208, u209, u210, u211, u212, u213, u214, u215, u216, u217, u218, u219, u220, u221, u222, u223, u224, u225, u226, u227, u228, u229, u230, u231, u232, u233, u234, u235, u236, u237, u238, u239, u240, u241, u242, u243, u244, u245, u246, u247, u248, u249, u250, u251, u252, u253, u254, u255, u256, u257, u258, u259, u260, u261, u262, u263, u264, u265, u266, u267, u268, u269, u270, u271, u272, u273, u274, u275, u276, u277, u278, u279, u280, u281, u282, u283, u284, u285, u286, u287, u288, u289, u290, u291, u292, u293, u294, u295, u296, u297, u298, u299, u300, u301, u302, u303, u304, u305, u306, u307, u308, u309, u310, u311, u312, u313, u314, u315, u316, u317, u318, u319, u320, u321, u322, u323, u324, u325, u326, u327, u328, u329, u330, u331, u332, u333, u334, u335, u336, u337, u338, u339, u340, u341, u342, u343, u344, u345, c346, c347, c348, c349, c350, c351, c352, c353], []⟩ wr := by
  subst hA
  have hltz : (k : Int) < (L.length : Int) := by omega
  have hfr := HS.out.frame
  obtain ⟨a0, a1, a2, a3, a4⟩ := HA.cell k hlt
  obtain ⟨⟨RA, rn, rc, hrv, hrn, hr6⟩, ⟨i1, i1'⟩, ⟨i2, i2'⟩, ⟨i3, i3'⟩, ⟨i4, i4'⟩⟩ := HA.runs k hlt
  have hbw := HA.blk
  replace a0 := (hfr.cell (by exact hbw)).trans a0
  replace a1 := (hfr.cell (by exact hbw)).trans a1
  replace a2 := (hfr.cell (by exact hbw)).trans a2
  replace a3 := (hfr.cell (by exact hbw)).trans a3
  replace a4 := (hfr.cell (by exact hbw)).trans a4
  have h6 : rn ≤ 6 := hsm _ _ _ hrv
  clear hsm
  rw [hrv] at a4 hr6
  generalize L[k]!.op = op at *
  generalize L[k]!.cl = cl at *
  generalize L[k]!.n = n at *
  generalize L[k]!.most = most at *
  generalize L[k]!.runs = runs at *
  clear hrv
  have HR6 := Kp.mk hr6
  have HAA := Kp.mk HA
  clear hr6 HA
  have hopb : (op == 0) = true := by simp [hop]
  clear hop
  obtain ⟨wx, hwx⟩ : ∃ wx, wx = wr.alloc (.cells #[.int .i64 op, .int .i64 cl, .int .i64 n, .int .i64 most, .slice RA rn rc] 40) := ⟨_, rfl⟩
  obtain ⟨X, hX⟩ : ∃ X, X = wr.heap.size := ⟨_, rfl⟩
  have HSX : Kp (St w wx q B9 p2 g pv bs bv bs tv T) := ⟨by rw [hwx]; exact HS.out.below ((Below.refl _ _).alloc (Nat.le_refl _) _)⟩
  have HX : Kp (Blk wx X 40 #[.int .i64 op, .int .i64 cl, .int .i64 n, .int .i64 most, .slice RA rn rc]) := ⟨by rw [hwx, hX]; exact Blk.new _ _ _⟩
  have hXw : w.heap.size ≤ X := by rw [hX]; exact hfr.size
  have hXl : X < wx.heap.size := Blk.lt HX.out
  have x0 : wx.cell? ⟨X, 0, none⟩ = some (.int .i64 op) := Blk.cell HX.out 0
  have x1 : wx.cell? ⟨X, 1, none⟩ = some (.int .i64 cl) := Blk.cell HX.out 1
  have x2 : wx.cell? ⟨X, 2, none⟩ = some (.int .i64 n) := Blk.cell HX.out 2
  have x3 : wx.cell? ⟨X, 3, none⟩ = some (.int .i64 most) := Blk.cell HX.out 3
  have x4 : wx.cell? ⟨X, 4, none⟩ = some (.slice RA rn rc) := Blk.cell HX.out 4
  conv => arg 2; whnf
  go_upto_region 15 with fail
  rw [← hwx, ← hX]
  clear hwx hX a0 a1 a2 a3 a4 HS
  have h6b : decide ((6 : Int) < (rn : Int)) = false := by simp; omega
  have hbl : g.b ≤ bs.length * 64 := by
    have := HM.out.len
    obtain ⟨gb, -, -, -, ga, gf, ge, gd⟩ := Geo.good_bd HM.out.good
    omega
  have HT : Kp _ := ⟨take_good q g pv bs cl n most wx HSX.out.ok (own_ne_blk HSX.out.ok.ow HSX.out.ok.at_ (by decide)) hbl hg1 hg2 hg3 i3' hg4⟩
  have g1b : decide (cl < 0) = false := by simp; omega
  have g2b : decide (g.c ≤ cl) = false := by simp; omega
  have g3b : decide (n < 0) = false := by simp; omega
  have g4b : decide (most < 1) = false := by simp; omega
  have mixed := Try.sortR.mixed
  have hgb := Geo.good_bd HM.out.good
  have hfa : (1 ≤ g.from_ ∧ 1 ≤ g.all ∧ g.from_ + g.all ≤ 1023) := by omega
  have hlen9 := HSX.out.ok.len
  have hLO : Kp (∀ W v, W.ownsRow 0 58 1 v bs.length (ints .u64 bs) → Calls Try.prog 10 #[.agg #[v], .int .i64 g.from_, .int .i64 (g.from_ + g.all), .int .i64 n, .int .i64 most] W fun r w' => r = .returned (longV (few (descL ((rowsL bs g).map (·.2))) n most.toNat)) ∧ Below W.heap.size W w') := ⟨fun W v hv =>
    longest_calls v bs g.from_ (g.from_ + g.all) n most ((rowsL bs g).map (·.2)) _ W (Sl.of_own hv (by omega)) hlen9 (by omega) HM.out.there (by rw [show g.from_ + g.all - g.from_ = g.all by omega]; rfl) (descL_perm _) (descL_pw _) (fun x hx => by
      obtain ⟨y, hy, rfl⟩ := List.mem_map.1 ((descL_perm _).mem_iff.2 hx)
      have := rowsGo_in HM.out.there (g.all.toNat + 1) g.from_ (Int.le_refl _) y hy
      omega) hg3 i3' hg4 i4'⟩
  clear hgb hbl hlen9
  go_wp2_with fail
  refine HT.out.mono ?_
  rintro e w2 ⟨S, hSp, hSd, hcase⟩
  have HFW := Kp.mk (HM.out.few hSp n most hg3 hSd)
  rw [hfew] at HFW hLO
  obtain ⟨out, hout⟩ : ∃ out, out = enoughL S n := ⟨_, rfl⟩
  have HFR : Kp (Fresh g bs out) := ⟨by rw [hout]; exact HM.out.fresh hSp n hg3⟩
  have hsum : sumL (counts out) = n ∧ m = out.length ∧ out.length ≤ 1024 := by
    have h1 := HFW.out
    rw [← hout] at h1
    by_cases hc : sumL (counts out) < n ∨ most.toNat < out.length
    · rw [if_pos hc] at h1; cases h1
    · rw [if_neg hc] at h1
      injection h1 with h1
      have hin : ∀ y ∈ S, 1 ≤ y.2 := fun y hy => (rowsGo_in HM.out.there (g.all.toNat + 1) g.from_ (Int.le_refl _) y (hSp.mem_iff.1 hy)).2.1
      have h2 := sumL_enough S n hg3 hin
      rw [← hout] at h2
      have h3 : counts out = out := counts_self _ (HFR.out.cnt HM.out.good)
      rw [h3] at hc ⊢
      have h4 : out.length ≤ S.length := by
        have hle : ∀ (l : List (Int × Int)) (m : Int), (enoughL l m).length ≤ l.length := by
          intro l
          induction l with
          | nil => intro m; simp [enoughL]
          | cons y l ih => intro m; rw [enoughL]; split <;> simp; exact ih _
        rw [hout]; exact hle S n
      have h5 := hSp.length_eq
      have h6 := rowsL_len (bs := bs) HM.out.good
      omega
  have hc2 : ∃ v' pv2, e = .returned (.tuple #[v', .int .i64 0]) ∧ w2.ownsRow 0 52 2 v' out.length (prs out) ∧ PoolTo wx w2 q g pv2 (markL bs true out) := by
    rw [← hout] at hcase
    rcases hcase with ⟨h1, _⟩ | ⟨_, v', pv2, h1, h2, h3⟩
    · exfalso
      have h2 := HFW.out
      rw [← hout, if_pos (by omega)] at h2
      cases h2
    · exact ⟨v', pv2, h1, own_weak h2 (Nat.zero_le _), h3⟩
  obtain ⟨vr, pv2, rfl, hown, hP2⟩ := hc2
  obtain ⟨hs1, hs2, hs3⟩ := hsum
  have HS2 : Kp (St w w2 q B9 p2 g pv2 (markL bs true out) bv bs tv T) := ⟨HSX.out.pool hP2⟩
  have HX2 : Kp (Blk w2 X 40 _) := ⟨Blk.grown HX.out hP2.grown (by have := blk_ne HX.out HSX.out.ok.at_ (by decide); simp [this])⟩
  replace x1 : w2.cell? ⟨X, 1, none⟩ = some (.int .i64 cl) := Blk.cell HX2.out 1
  replace x2 : w2.cell? ⟨X, 2, none⟩ = some (.int .i64 n) := Blk.cell HX2.out 2
  replace x3 : w2.cell? ⟨X, 3, none⟩ = some (.int .i64 most) := Blk.cell HX2.out 3
  have xg : w2.cell? ⟨p2, 2, none⟩ = some (.int .i64 g.c) := Blk.cell HS2.out.bx 2
  have x9 : w2.cell? ⟨B9, 0, none⟩ = some bv := Blk.cell HS2.out.b9 0
  have HLC : Kp _ := ⟨hLO.out w2 bv HS2.out.brow⟩
  have HOR : Kp _ := ⟨hown⟩
  obtain ⟨Ar, cr, hvr, _, _⟩ := (Sl.of_own hown (by omega)).form (by omega)
  subst hvr
  have hXl2 : X < w2.heap.size := Blk.lt HX2.out
  subst hs2
  clear x0 x4 hP2 HT HSX HX hcase hSp hSd hfew HFW hLO hown hout hXl
  simp only [longV] at HLC
  go_wp2_with fail
  refine HLC.out.mono ?_
  rintro e w3 ⟨rfl, hb3⟩
  have HS3 : Kp (St w w3 q B9 p2 g pv2 (markL bs true out) bv bs tv T) := ⟨HS2.out.below hb3⟩
  have HX3 : Kp (Blk w3 X 40 _) := ⟨Blk.below HX2.out hb3 hXl2⟩
  have hXl3 : X < w3.heap.size := Blk.lt HX3.out
  have HOR3 : Kp (w3.ownsRow 0 52 2 (.slice Ar out.length cr) out.length (prs out)) := ⟨own_below HOR.out hb3⟩
  replace x2 : w3.cell? ⟨X, 2, none⟩ = some (.int .i64 n) := Blk.cell HX3.out 2
  have HRW : Kp (∀ W, Below w3.heap.size w3 W → SlP W (.slice Ar out.length cr) out) := ⟨fun W hW => (Sl.of_own HOR3.out (by omega)).below hW⟩
  have KX : Kp (∀ W, Below w3.heap.size w3 W → W.cell? ⟨X, 2, none⟩ = some (.int .i64 n)) := ⟨fun W hW => (hW.cell hXl3).trans x2⟩
  have HOWN : Kp (∀ W, Below w3.heap.size w3 W → Calls Try.prog 12 #[.slice Ar out.length cr] W fun e w' => ∃ v', e = .returned v' ∧ SlP w' v' out ∧ Below W.heap.size W w') := ⟨fun W hW => (own12_calls _ out W (HRW.out W hW) (by omega)).mono fun e w' h => by
    obtain ⟨v', h1, h2, h3⟩ := h; exact ⟨v', h1, Sl.of_own h2 (by omega), h3⟩⟩
  have HTOT : Kp (∀ W v, SlP W v out → Calls Try.prog 11 #[v] W fun e w' => e = .returned (.int .i64 n) ∧ Below W.heap.size W w') := ⟨fun W v hv => by have := total6_calls v out W hv (by omega); rwa [hs1] at this⟩
  have HMG : Kp (∀ W v, SlP W v out → Calls Try.prog 14 #[v] W fun e w' => ∃ v', e = .returned v' ∧ SlP w' v' out ∧ Below W.heap.size W w') := ⟨fun W v hv => (merge6_calls v out W hv (by omega) (HFR.out.merged HM.out.good)).mono fun e w' h => by
    obtain ⟨v', h1, h2, h3⟩ := h; exact ⟨v', h1, Sl.of_own h2 (by omega), h3⟩⟩
  have HAL : Kp (∀ W v u, SlP W v out → SlP W u out → Calls Try.prog 13 #[v, u] W fun e w' => e = .returned (.bool true) ∧ Below W.heap.size W w') := ⟨fun W v u hv hu => alike_calls v u out W hv hu (by omega)⟩
  have HAP : Kp (∀ W v, SlP W v out → Calls Try.prog 15 #[v] W fun e w' => e = .returned (.bool true) ∧ Below W.heap.size W w') := ⟨fun W v hv => apart6_calls v out W hv (by omega) (HFR.out.cnt HM.out.good) HFR.out.apart⟩
  have b0 : Below w3.heap.size w3 w3.drew := below_drewN (Below.refl _ _) 1
  have hmm : ((out.length : Int) == (out.length : Int)) = true := by simp
  clear HS2 HX2 x1 x3 xg x9 hb3 HLC HOR hs1 g1b g2b g3b g4b hg1 hg2 hg3 hg4 i1 i1' i2 i2' i3 i3' i4 i4' h6b hopb HR6
  go_upto_region 32 with fail
  go_region_held3 (fun w' => w'.cell? ⟨X, 2, none⟩ = some (.int .i64 n))
    (first
      | exact KX.out _ bH
      | exact KX.out _ bG
      | exact KX.out _ bF
      | exact KX.out _ bE
      | exact KX.out _ bD
      | exact KX.out _ bC
      | exact KX.out _ bB
      | exact KX.out _ bA
      | exact KX.out _ b0)
    (first
      | (go_at_call 12; (fail_if_success (have := bA)); refine (HOWN.out _ b0).mono ?_; rintro e wA ⟨vA, rfl, hA, hbA⟩; have bA := below_then b0 hbA)
      | (go_at_call 11; refine (HTOT.out _ _ hA).mono ?_; rintro e wB ⟨rfl, hbB⟩; have bB := below_then bA hbB)
      | (go_at_call 12; (fail_if_success (have := bC)); refine (HOWN.out _ bB).mono ?_; rintro e wC ⟨vC, rfl, hC, hbC⟩; have bC := below_then bB hbC)
      | (go_at_call 12; (fail_if_success (have := bD)); refine (HOWN.out _ bC).mono ?_; rintro e wD ⟨vD, rfl, hD, hbD⟩; have bD := below_then bC hbD; have hC2 := hC.below hbD)
      | (go_at_call 14; refine (HMG.out _ _ hD).mono ?_; rintro e wE ⟨vE, rfl, hE, hbE⟩; have bE := below_then bD hbE; have hC3 := hC2.below hbE)
      | (go_at_call 13; refine (HAL.out _ _ _ hC3 hE).mono ?_; rintro e wF ⟨rfl, hbF⟩; have bF := below_then bE hbF)
      | (go_at_call 12; refine (HOWN.out _ bF).mono ?_; rintro e wG ⟨vG, rfl, hG, hbG⟩; have bG := below_then bF hbG)
      | (go_at_call 15; refine (HAP.out _ _ hG).mono ?_; rintro e wH ⟨rfl, hbH⟩; have bH := below_then bG hbH))
  have HS4 : Kp (St w wH q B9 p2 g pv2 (markL bs true out) bv bs tv T) := ⟨HS3.out.below bH⟩
  have HR4 : Kp (wH.ownsRow 0 52 2 (.slice Ar out.length cr) out.length (prs out)) := ⟨own_below HOR3.out bH⟩
  have HS5 : Kp (St w wH q B9 p2 g pv2 (markL bs true out) bv (markL bs true (out.take 0)) tv T) := ⟨HS4.out⟩
  clear HS4 HS3 HOR3 HRW KX HOWN HTOT HMG HAL HAP b0 hmm bA bB bC bD bE bF bG bH hbA hbB hbC hbD hbE hbF hbG hbH hA hC hC2 hC3 hD hE hG x2 HX3
  have hbl3 : bs.length ≤ 1024 := by have := HM.out.len; have := Geo.good_bd HM.out.good; omega
  have hbl4 : 0 < bs.length := by have := HM.out.len; have := Geo.good_bd HM.out.good; omega
  obtain ⟨w5, hw5⟩ : ∃ w5, w5 = wH := ⟨_, rfl⟩
  rw [← hw5] at HS5 HR4 ⊢
  clear hw5
  go_wp2_with fail
  go_loopw [17] (fun x wr => ∃ (j : Nat) (bv1 : Value), j ≤ out.length ∧ x = .int .i64 j ∧ Kp (St w wr q B9 p2 g pv2 (markL bs true out) bv1 (markL bs true (out.take j)) tv T) ∧ Kp (wr.ownsRow 0 52 2 (.slice Ar out.length cr) out.length (prs out)))
    (fun x _ => out.length - (intOf x).toNat)
  case atStart => exact ⟨0, bv, Nat.zero_le _, rfl, HS5, HR4⟩
  case round =>
    clear HS5 HR4
    obtain ⟨j, bv1, hj, rfl, HS5, HR5⟩ := hrel
    by_cases hjl : j < out.length
    · obtain ⟨gr, hgr⟩ : ∃ gr, Ar = some ⟨gr, 0, none⟩ := by
        rcases HR5.out.2 with ⟨_, e2⟩ | ⟨gr, c', cur, e1, _⟩
        · omega
        · injection e1 with e1; exact ⟨gr, e1⟩
      subst hgr
      have r0 := (HR5.out.cellAt (j * 2) (by omega)).trans (prs_get0 out j hjl)
      have r1 := (HR5.out.cellAt (j * 2 + 1) (by omega)).trans (prs_get1 out j hjl)
      have hel := HFR.out.el _ (getD_mem out (0, 0) j hjl)
      have HCL : Kp (∀ t : Nat, (t : Int) < (out.getD j (0, 0)).2 → hasB (markOne (markL bs true (out.take j)) true (out.getD j (0, 0)).1 t) ((out.getD j (0, 0)).1 + t) = false) := ⟨fun t ht => HFR.out.clear HM.out j hjl t ht⟩
      have HMS := Kp.mk (markL_snoc bs true out j hjl)
      obtain ⟨base, hbase⟩ : ∃ z, z = markL bs true (out.take j) := ⟨_, rfl⟩
      have HBL : Kp (base.length = bs.length) := ⟨by rw [hbase, markL_length]⟩
      rw [← hbase] at HS5 HCL HMS
      generalize out.getD j (0, 0) = x at r0 r1 hel HCL HMS
      obtain ⟨p, nn⟩ := x
      simp only at r0 r1 hel HCL HMS
      obtain ⟨l1, l2, l3, -⟩ := hel
      have l1b : decide (nn < 1) = false := by simp; omega
      have l2b : decide (p < g.from_) = false := by simp; omega
      have l3b : decide (g.from_ + g.all < p + nn) = false := by simp; omega
      have HS6 : Kp (St w wr q B9 p2 g pv2 (markL bs true out) bv1 (markOne base true p 0) tv T) := ⟨HS5.out⟩
      clear hbase HS5
      obtain ⟨w6, hw6⟩ : ∃ w6, w6 = wr := ⟨_, rfl⟩
      rw [← hw6] at HS6 HR5 r0 r1 ⊢
      clear hw6 wr
      go_wp2_with fail
      go_quiet (fail)
      have HS7 : Kp (St w (w6.drewN nq) q B9 p2 g pv2 (markL bs true out) bv1 (markOne base true p 0) tv T) := ⟨HS6.out.below (below_drewN (Below.refl _ _) nq)⟩
      have HR7 : Kp ((w6.drewN nq).ownsRow 0 52 2 (.slice (some ⟨gr, 0, none⟩) out.length cr) out.length (prs out)) := ⟨HR5.out⟩
      generalize w6.drewN nq = w7 at HS7 HR7 ⊢
      have HRC : Kp (∀ W : World, W.ownsRow 0 52 2 (.slice (some ⟨gr, 0, none⟩) out.length cr) out.length (prs out) → W.cell? ⟨gr, j * 2, none⟩ = some (.int .i64 p) ∧ W.cell? ⟨gr, j * 2 + 1, none⟩ = some (.int .i64 nn)) := ⟨fun W hW => ⟨by rw [hW.cellAt (j * 2) (by omega), ← HR5.out.cellAt (j * 2) (by omega)]; exact r0, by rw [hW.cellAt (j * 2 + 1) (by omega), ← HR5.out.cellAt (j * 2 + 1) (by omega)]; exact r1⟩⟩
      clear HS6 HR5 r0 r1 w6 l1b l2b l3b
      go_wp2_with fail
      go_loopw [18] (fun x wr => ∃ (t : Nat) (bv1 : Value), (t : Int) ≤ nn ∧ x = .int .i64 t ∧ Kp (St w wr q B9 p2 g pv2 (markL bs true out) bv1 (markOne base true p t) tv T) ∧ Kp (wr.ownsRow 0 52 2 (.slice (some ⟨gr, 0, none⟩) out.length cr) out.length (prs out)))
        (fun x _ => (nn - intOf x).toNat)
      case atStart => exact ⟨0, bv1, by omega, rfl, HS7, HR7⟩
      case round =>
        clear HS7 HR7
        obtain ⟨t, bv3, ht, rfl, HS7, HR7⟩ := hrel
        obtain ⟨s0, s1⟩ := HRC.out wr HR7.out
        by_cases htl : (t : Int) < nn
        · skip
          obtain ⟨cur, hcur⟩ : ∃ z, z = markOne base true p t := ⟨_, rfl⟩
          have HCU : Kp (markOne base true p (t + 1) = setOne cur true (p + t)) := ⟨by rw [hcur]; rfl⟩
          have hcl : cur.length = bs.length := by rw [hcur, markOne_length, HBL.out]
          rw [← hcur] at HS7
          obtain ⟨A3, c3', hv3, _, _⟩ := (Sl.of_own HS7.out.brow (by omega)).form (by omega)
          subst hv3
          obtain ⟨x, hx⟩ : ∃ x, x = p + (t : Int) := ⟨_, rfl⟩
          have hw1 : IntKind.i64.wrap (p + (t : Int)) = x := by rw [hx, IntKind.wrap_i64] <;> omega
          have hx1 : -9223372036854775808 ≤ x ∧ x ≤ 9223372036854775807 := by omega
          have hB9l : B9 < wr.heap.size := HS7.out.b9len
          have u9 : wr.cell? ⟨B9, 0, none⟩ = some (.slice A3 cur.length c3') := Blk.cell HS7.out.b9 0
          have hgl : gr < wr.heap.size := World.block_lt_of_cell? _ _ s0
          have hH : ∀ p' : BelowOf wr, Calls Try.prog 16 #[.agg #[.slice A3 cur.length c3'], .int .i64 x] p'.w fun e w' => e = .returned (.bool false) ∧ Below p'.w.heap.size p'.w w' := fun p' => by
            have := has_calls (.slice A3 cur.length c3') cur x p'.w ((Sl.of_own HS7.out.brow (by omega)).below p'.h) (by omega) (by omega) (by omega)
            rwa [hx, hcur, HCL.out t htl, ← hcur, ← hx] at this
          have e0 : ∀ p' : BelowOf wr, p'.w.cell? ⟨gr, j * 2, none⟩ = some (.int .i64 p) := cell_bo hgl s0
          have e9 : ∀ p' : BelowOf wr, p'.w.cell? ⟨B9, 0, none⟩ = some (.slice A3 cur.length c3') := cell_bo hB9l u9
          have hlj : (j : Int) < (out.length : Int) := by omega
          have KT : Kp (cur = markOne base true p t ∧ x = p + t ∧ (t : Int) < nn) := ⟨hcur, hx, htl⟩
          have hwj : Kp (wrap64 ((t : Int) + 1) = ((t + 1 : Nat) : Int)) := ⟨wrap64_in' t (by omega)⟩
          have HCN := Kp.mk hcl
          clear hcur hx hcl
          go_wp2_with fail
          (refine wp_region_quiet_below (by assumption) (by kernel_rfl) ?_
           repeat (quiet_step (first | (go_at_call 16; with_reducible refine Calls.bo (hH _))))
           refine wpQuiet_nil ?_
           intro wq hw'
           obtain ⟨p0, hp0⟩ := hw'
           have hbq := p0.h
           rw [← hp0] at hbq
           clear hp0 p0)
          have HSQ : Kp (St w wq q B9 p2 g pv2 (markL bs true out) (.slice A3 cur.length c3') cur tv T) := ⟨HS7.out.below hbq⟩
          have HRQ : Kp (wq.ownsRow 0 52 2 (.slice (some ⟨gr, 0, none⟩) out.length cr) out.length (prs out)) := ⟨own_below HR7.out hbq⟩
          have d0 : wq.cell? ⟨gr, j * 2, none⟩ = some (.int .i64 p) := (HRC.out wq HRQ.out).1
          have d9 : wq.cell? ⟨B9, 0, none⟩ = some (.slice A3 cur.length c3') := Blk.cell HSQ.out.b9 0
          have f9 : wq.frozen? ⟨B9, 0, none⟩ = false := Blk.frozen HSQ.out.b9 0
          have hgq : gr < wq.heap.size := World.block_lt_of_cell? _ _ d0
          have hBq : B9 < wq.heap.size := HSQ.out.b9len
          have hx := KT.out.2.1
          have hcl := HCN.out
          have HSET : Kp (Calls Try.prog 17 #[.agg #[.slice A3 cur.length c3'], .bool true, .slice (some ⟨wq.heap.size, 0, none⟩) 1 1] (wq.alloc (.cells #[.int .i64 x] 3)).drew fun e w' => ∃ A' cp', e = .returned (.agg #[.slice A' cur.length cp']) ∧
              w'.cell? ⟨B9, 0, none⟩ = some (.slice A3 cur.length c3') ∧ w'.frozen? ⟨B9, 0, none⟩ = false ∧
              Kp (St w (w'.setCell ⟨B9, 0, none⟩ (.slice A' cur.length cp')) q B9 p2 g pv2 (markL bs true out) (.slice A' cur.length cp') (markOne base true p (t + 1)) tv T ∧ (w'.setCell ⟨B9, 0, none⟩ (.slice A' cur.length cp')).ownsRow 0 52 2 (.slice (some ⟨gr, 0, none⟩) out.length cr) out.length (prs out))) := by
            have hW0b : Below wq.heap.size wq (wq.alloc (.cells #[.int .i64 x] 3)).drew := below_drewN ((Below.refl _ _).alloc (Nat.le_refl _) _) 1
            have hlv : SlI (wq.alloc (.cells #[.int .i64 x] 3)).drew .i64 (.slice (some ⟨wq.heap.size, 0, none⟩) 1 1) [x] := ⟨rfl, by simp, Or.inr ⟨_, 1, rfl, by simp, fun i u hu => by
              rcases i with _ | i
              · simp [ints] at hu; subst hu; simp [World.drew, add_none]; exact Blk.cell (Blk.new wq 3 #[.int .i64 x]) 0
              · simp [ints] at hu⟩⟩
            refine ⟨(set_calls _ _ cur [x] true _ ((Sl.of_own HSQ.out.brow (by omega)).below hW0b) hlv (by omega) (by omega) (by intro y hy; simp at hy; omega)).mono fun e w' h => ?_⟩
            obtain ⟨v', h1, h2, h3⟩ := h
            obtain ⟨A', cp', h4, _, _⟩ := (Sl.of_own h2 (by omega)).form (by omega)
            subst h4
            have hbw : Below wq.heap.size wq w' := below_then hW0b h3
            have hB := Blk.below HSQ.out.b9 hbw (Blk.lt HSQ.out.b9)
            have hc9 : w'.cell? ⟨B9, 0, none⟩ = some (.slice A3 cur.length c3') := Blk.cell hB 0
            rw [setOne_one, hx, ← HCU.out] at h2
            have hlen : (markOne base true p (t + 1)).length = cur.length := by rw [HCU.out, setOne_length]
            refine ⟨A', cp', h1, hc9, Blk.frozen hB 0, ⟨HSQ.out.bits hbw (base := _) (bs' := markOne base true p (t + 1)) (by rw [hlen]; exact h2), (own_below HRQ.out hbw).kept (grown_setCell (grown_of_below (Below.refl _ _) (some B9)) (Or.inl rfl) _) (Or.inr (own_ne_blk (own_below HRQ.out hbw) hB (by decide)))⟩⟩
          clear hx hbq e0 e9 hH s0 s1 u9 HSQ HRQ HS7 HR7 hcl hx1
          go_wp2_with fail
          refine wp_region_noPanic ?_
          go_region_with (go_at_call 17; refine HSET.out.mono ?_; rintro e w8 ⟨A', cp', rfl, hcc, hff, HI2⟩)
          all_goals refine NoPanic.normal ?_
          all_goals go_wp2_with fail
          all_goals exact ⟨⟨t + 1, _, by have := KT.out.2.2; omega, by first | rfl | simp, ⟨HI2.out.1⟩, ⟨HI2.out.2⟩⟩, by have := KT.out.2.2; simp only [intOf]; omega⟩
        · have htn : t = nn.toNat := by omega
          have HS8 : Kp (St w wr q B9 p2 g pv2 (markL bs true out) bv3 (markL bs true (out.take (j + 1))) tv T) := ⟨by rw [HMS.out, ← htn]; exact HS7.out⟩
          clear HS7 HRC htn
          go_wp2_with fail
          exact ⟨⟨j + 1, bv3, by omega, by go_num, HS8, HR7⟩, by simp [intOf]; omega⟩
    · have hje : j = out.length := by omega
      subst hje
      rw [List.take_length] at HS5
      obtain ⟨wl, hwl⟩ : ∃ wl, wl = wr := ⟨_, rfl⟩
      rw [← hwl] at HS5 HR5 ⊢
      clear hwl wr
      have hfrl := HS5.out.frame.size
      have hTl : T.length ≤ 30 := by omega
      have HOT := Kp.mk HS5.out.told
      have HBF := Kp.mk HS5.out.frame
      go_wp2_with (at_builtin; refine app1 (w0 := w) w.heap.size rfl (.tmp 254) (.tmp 256) 37 38 _ 1 24 rfl Try.underlying37 infoSl rfl (by decide) _ T.length (T.map (·.1)) [.slice Ar out.length cr] rfl _ rfl ?c0 rfl (one_sl _ _ _) ?cO ?cB ?c1 ?c2 ?c3 ?_)
      case c0 => simp
      case cO => exact HOT.out
      case cB => exact HBF.out
      case c1 => omega
      case c2 => omega
      case c3 => omega
      rintro v1 w9 HO9 HB9 HG9
      have HSN : Kp (St w w9 q B9 p2 g pv2 (markL bs true out) bv1 (markL bs true out) v1 (T ++ [(.slice Ar out.length cr, out)])) := ⟨HS5.out.row HG9.out (by rw [List.length_append, List.map_append]; exact HO9.out) (fun x hx => by
        rcases List.mem_append.1 hx with hx | hx
        · exact HS5.out.ent x hx
        · simp at hx; subst hx; exact ⟨HR5.out, hs3⟩) HB9.out⟩
      have HMN : Kp (Sim g (markL bs true out) ((T ++ [(Value.slice Ar out.length cr, out)]).map (·.2))) := ⟨by rw [List.map_append]; exact HM.out.take HFR.out⟩
      obtain ⟨bs2, hbs2⟩ : ∃ z, z = markL bs true out := ⟨_, rfl⟩
      obtain ⟨T2, hT2e⟩ : ∃ z, z = T ++ [(Value.slice Ar out.length cr, out)] := ⟨_, rfl⟩
      have hT2 : T2.length ≤ k + 1 := by rw [hT2e]; simp; omega
      rw [← hbs2, ← hT2e] at HSN HMN
      obtain ⟨tv2, htv2⟩ : ∃ z, z = v1 := ⟨_, rfl⟩
      rw [← htv2] at HSN ⊢
      have HS2 := HSN
      have HM2 := HMN
      clear HG9 HO9 HB9 HS5 HR5 HOT HBF hbs2 hT2e htv2 HSN HMN HM HFR
      have hl3 := HS2.out.ok.len
      have hl4 := HS2.out.ok.pos
      obtain ⟨A9, c9, hv9, _, _⟩ := (Sl.of_own HS2.out.brow (by omega)).form (by omega)
      subst hv9
      go_upto_region 58 with fail
      go_wp2_with fail
      refine (bits_calls q g pv2 bs2 _ HS2.out.ok).mono ?_
      rintro e wb ⟨vb, rfl, hob, hbb⟩
      obtain ⟨Ab, cb, hvb, _, _⟩ := (Sl.of_own hob (by omega)).form (by omega)
      subst hvb
      obtain ⟨wn, hwn⟩ : ∃ wn, wn = wb.alloc (.cells #[.slice Ab bs2.length cb] 33) := ⟨_, rfl⟩
      obtain ⟨N, hN⟩ : ∃ N, N = wb.heap.size := ⟨_, rfl⟩
      have HS3 : Kp (St w wn q B9 p2 g pv2 bs2 (.slice A9 bs2.length c9) bs2 tv2 T2) := ⟨by rw [hwn]; exact (HS2.out.below hbb).below ((Below.refl _ _).alloc (Nat.le_refl _) _)⟩
      have HN : Kp (Blk wn N 33 #[.slice Ab bs2.length cb]) := ⟨by rw [hwn, hN]; exact Blk.new _ _ _⟩
      have HOB : Kp (SlI wn .u64 (.slice Ab bs2.length cb) bs2) := ⟨Sl.of_own (by rw [hwn]; exact hob.alloc _) (by omega)⟩
      have HO9 : Kp (SlI wn .u64 (.slice A9 bs2.length c9) bs2) := ⟨Sl.of_own HS3.out.brow (by omega)⟩
      obtain ⟨Ax, cx, hvx, hcb, hxb⟩ := HOB.out.form
      obtain ⟨⟩ := hvx
      obtain ⟨Ay, cy, hvy, hc9, hx9⟩ := HO9.out.form
      obtain ⟨⟩ := hvy
      obtain ⟨bb, ob, hAb, hbbl, hcb'⟩ := hxb (by omega)
      obtain ⟨b9, o9, hA9, hb9l, hc9'⟩ := hx9 (by omega)
      subst hAb hA9
      have HCB := Kp.mk hcb'
      have HC9 := Kp.mk hc9'
      have hNl : N < wn.heap.size := Blk.lt HN.out
      have hBl : B9 < wn.heap.size := HS3.out.b9len
      have n0 : wn.cell? ⟨N, 0, none⟩ = some (.slice (some ⟨bb, ob, none⟩) bs2.length cb) := Blk.cell HN.out 0
      have n9 : wn.cell? ⟨B9, 0, none⟩ = some (.slice (some ⟨b9, o9, none⟩) bs2.length c9) := Blk.cell HS3.out.b9 0
      go_upto_region 59 with fail
      rw [← hwn, ← hN]
      clear hxb hx9 hcb' hc9' hwn hN hob hbb HS2 HOB HO9
      go_wp2_with fail
      go_loopw [23] (fun x wr => ∃ j : Nat, j ≤ bs2.length ∧ x = .int .i64 j ∧ Kp (Below wn.heap.size wn wr)) (fun x _ => bs2.length - (intOf x).toNat)
      case atStart => exact ⟨0, Nat.zero_le _, rfl, ⟨Below.refl _ _⟩⟩
      case round =>
        obtain ⟨j, hj, rfl, HB⟩ := hrel
        have m0 : wr.cell? ⟨N, 0, none⟩ = some (.slice (some ⟨bb, ob, none⟩) bs2.length cb) := (HB.out.cell (by exact hNl)).trans n0
        have m9 : wr.cell? ⟨B9, 0, none⟩ = some (.slice (some ⟨b9, o9, none⟩) bs2.length c9) := (HB.out.cell (by exact hBl)).trans n9
        by_cases hjl : j < bs2.length
        · have y0 : wr.cell? ⟨bb, ob + j, none⟩ = some (.int .u64 (bs2.getD j 0)) := (HB.out.cell (by exact hbbl)).trans (HCB.out j hjl)
          have y9 : wr.cell? ⟨b9, o9 + j, none⟩ = some (.int .u64 (bs2.getD j 0)) := (HB.out.cell (by exact hb9l)).trans (HC9.out j hjl)
          generalize bs2.getD j 0 = y at y0 y9
          go_wp2_with fail
          go_quiet (fail)
          go_wp2_with fail
          exact ⟨⟨j + 1, by omega, by go_num, ⟨below_drewN HB.out _⟩⟩, by simp [intOf]; omega⟩
        · have HS4 : Kp (St w wr q B9 p2 g pv2 bs2 (.slice (some ⟨b9, o9, none⟩) bs2.length c9) bs2 tv2 T2) := ⟨HS3.out.below HB.out⟩
          clear HS3 HN HCB HC9
          go_wp2_with fail
          refine ⟨?_, by simp [PMu, intOf]; omega⟩
          unfold PWI
          refine ⟨_, _, _, _, _, _, _, _, _, _, _, _, _, _, _, _, _, _, _, _, _, _, _, _, _, _, _, _, _, _, _, _, _, _, _, _, _, _, _, _, _, _, _, _, _, _, _, _, _, _, _, _, _, _, _, _, _, _, _, _, _, _, _, _, _, _, _, _, _, _, _, _, _, _, _, _, _, _, _, _, _, _, _, _, _, _, _, _, _, _, _, _, _, _, _, _, _, _, _, _, _, _, _, _, _, _, _, _, _, _, _, _, _, _, _, _, _, _, _, _, _, _, _, _, _, _, _, _, _, _, _, _, _, _, _, _, _, _, _, _, _, _, _, _, _, _, _, _, _, _, _, _, _, _, _, _, _, _, _, _, _, _, _, _, _, _, _, _, _, _, _, _, _, _, _, _, _, _, _, _, _, _, _, _, _, _, _, _, _, _, _, _, _, _, _, _, _, _, _, _, _, _, _, _, _, _, _, _, _, _, _, _, _, _, _, _, _, _, _, _, _, _, _, _, _, _, _, _, _, _, _, _, _, _, _, _, _, _, _, _, _, _, _, _, _, _, _, _, _, _, _, _, _, _, _, _, _, _, _, _, _, _, _, _, _, _, _, _, _, _, _, _, _, _, _, _, _, _, _, _, _, _, _, _, _, _, _, _, _, _, _, _, _, _, _, _, _, _, _, _, _, _, ?_, rfl⟩
          exact ⟨k + 1, pv2, _, bs2, T2, by first | rfl | simp, by omega, hT2, HS4, HM2⟩

end Go.Proofs.Ytdjnadnmlcpaaaa
