import Derived.Test.YtdjnadnmlcpaaaaPlW
import Derived.Deep.RegionHeld3
namespace Go.Proofs.Ytdjnadnmlcpaaaa
open Go.RowKit

set_option maxHeartbeats 4000000 in
set_option maxRecDepth 1000000 in
theorem pl_give (w : World) (A : Option Addr) (cap : Nat) (q B9 p2 : Nat) (g : Geo) (L : List ActI) (c0 c3 c6 c24 c25 c26 c27 c28 c29 c30 c31 c32 c33 c34 c35 c36 c37 c38 c39 c40 c41 c42 c43 c44 c45 c46 c47 c48 c49 c50 c51 c52 c53 c54 c55 c56 c57 c58 c346 c347 c348 c349 c350 c351 c352 c353 : Value) (u4 u10 u11 u12 u13 u14 u15 u16 u17 u18 u19 u20 u21 u22 u23 u59 u60 u61 u62 u63 u64 u65 u66 u67 u68 u69 u70 u71 u72 u73 u74 u75 u76 u77 u78 u79 u80 u81 u82 u83 u84 u85 u86 u87 u88 u89 u90 u91 u92 u93 u94 u95 u96 u97 u98 u99 u100 u101 u102 u103 u104 u105 u106 u107 u108 u109 u110 u111 u112 u113 u114 u115 u116 u117 u118 u119 u120 u121 u122 u123 u124 u125 u126 u127 u128 u129 u130 u131 u132 u133 u134 u135 u136 u137 u138 u139 u140 u141 u142 u143 u144 u145 u146 u147 u148 u149 u150 u151 u152 u153 u154 u155 u156 u157 u158 u159 u160 u161 u162 u163 u164 u165 u166 u167 u168 u169 u170 u171 u172 u173 u174 u175 u176 u177 u178 u179 u180 u181 u182 u183 u184 u185 u186 u187 u188 u189 u190 u191 u192 u193 u194 u195 u196 u197 u198 u199 u200 u201 u202 u203 u204 u205 u206 u207 u208 u209 u210 u211 u212 u213 u214 u215 u216 u217 u218 u219 u220 u221 u222 u223 u224 u225 u226 u227 u228 u229 u230 u231 u232 u233 u234 u235 u236 u237 u238 u239 u240 u241 u242 u243 u244 u245 u246 u247 u248 u249 u250 u251 u252 u253 u254 u255 u256 u257 u258 u259 u260 u261 u262 u263 u264 u265 u266 u267 u268 u269 u270 u271 u272 u273 u274 u275 u276 u277 u278 u279 u280 u281 u282 u283 u284 u285 u286 u287 u288 u289 u290 u291 u292 u293 u294 u295 u296 u297 u298 u299 u300 u301 u302 u303 u304 u305 u306 u307 u308 u309 u310 u311 u312 u313 u314 u315 u316 u317 u318 u319 u320 u321 u322 u323 u324 u325 u326 u327 u328 u329 u330 u331 u332 u333 u334 u335 u336 u337 u338 u339 u340 u341 u342 u343 u344 u345 : Value) (wr : World) (k : Nat) (pv bv tv : Value) (bs : List Int) (T : List (Value × List (Int × Int))) (b o : Nat)
    (hk : k ≤ L.length) (hT : T.length ≤ k) (HS : Kp (St w wr q B9 p2 g pv bs bv bs tv T)) (HM : Kp (Sim g bs (T.map (·.2)))) (hA : A = some ⟨b, o, none⟩) (HA : ActsIn w b o L) (hlt : k < L.length) (hLL : L.length ≤ 30) (hsm : ∀ A n c, L[k]!.rv = .slice A n c → n ≤ 6) (hop : L[k]!.op = 1) (hn0 : 0 ≤ L[k]!.n) (hn1 : L[k]!.n < (T.length : Int))
    (Q0 : Exit → Act → World → Prop) (hexit : ∀ a' w'', PWI w A cap q B9 p2 g L c0 c3 c6 c24 c25 c26 c27 c28 c29 c30 c31 c32 c33 c34 c35 c36 c37 c38 c39 c40 c41 c42 c43 c44 c45 c46 c47 c48 c49 c50 c51 c52 c53 c54 c55 c56 c57 c58 c346 c347 c348 c349 c350 c351 c352 c353 a' w'' → Q0 (.exit 0) a' w'') (hret : PRet w Q0) :
    Code.wp Try.prog plBody (Exit.then (fun a' w'' => PWI w A cap q B9 p2 g L c0 c3 c6 c24 c25 c26 c27 c28 c29 c30 c31 c32 c33 c34 c35 c36 c37 c38 c39 c40 c41 c42 c43 c44 c45 c46 c47 c48 c49 c50 c51 c52 c53 c54 c55 c56 c57 c58 c346 c347 c348 c349 c350 c351 c352 c353 a' w'' ∧ PMu L a' w'' < PMu L ⟨#[c0, .slice A L.length cap, .pointer (some ⟨p2, 0, none⟩), c3, u4, .pointer (some ⟨q, 0, none⟩), c6, .int .i64 g.from_, .int .i64 g.all, .pointer (some ⟨B9, 0, none⟩), tv, .int .i64 k, u12, u13, u14, u15, u16, u17, u18, u19, u20, u21, u22, u23, c24, c25, c26, c27, c28, c29, c30, c31, c32, c33, c34, c35, c36, c37, c38, c39, c40, c41, c42, c43, c44, c45, c46, c47, c48, c49, c50, c51, c52, c53, c54, c55, c56, c57, c58, u59, u60, u61, u62, u63, u64, u65, u66, u67, u68, u69, u70, u71, u72, u73, u74, u75, u76, u77, u78, u79, u80, u81, u82, u83, u84, u85, u86, u87, u88, u89, u90, u91, u92, u93, u94, u95, u96, u97, u98, u99, u100, u101, u102, u103, u104, u105, u106, u107, u108, u109, u110, u111, u112, u113, u114, u115, u116, u117, u118, u119, u120, u121, u122, u123, u124, u125, u126, u127, u128, u129, u130, u131, u132, u133, u134, u135, u136, u137, u138, u139, u140, u141, u142, u143, u144, u145, u146, u147, u148, u149, u150, u151, u152, u153, u154, u155, u156, u157, u158, u159, u160, u161, u162, u163, u164, u165, u166, u167, u168, u169, u170, u171, u172, u173, u174, u175, u176, u177, u178, u179, u180, u181, u182, u183, u184, u185, u186, u187, u188, u189, u190, u191, u192, u193, u194, u195, u196, u197, u198, u199, u200, u201, u202, u203, u204, u205, u206, u207, u208, u209, u210, u211, u212, u213, u214, u215, u216, u217, u218, u219, u220, u221, u222, u223, u224, u225, u226, u227, u228, u229, u230, u231, u232, u233, u234, u235, u236, u237, u238, u239, u240, u241, u242, u243, u244, u245, u246, u247, u248, u249, u250, u251, u252, u253, u254, u255, u256, u257, u258, u259, u260, u261, u262, u263, u264, u265, u266, u267, u268, u269, u270, u271, u272, u273, u274, u275, u276, u277, u278, u279, u280, u281, u282, u283, u284, u285, u286, u287, u288, u289, u290, u291, u292, u293, u294, u295, u296, u297, u298, u299, u300, u301, u302, u303, u304, u305, u306, u307, u308, u309, u310, u311, u312, u313, u314, u315, u316, u317, u318, u319, u320, u321, u322, u323, u324, u325, u326, u327, u328, u329, u330, u331, u332, u333, u334, u335, u336, u337, u338, u339, u340, u341, u342, u343, u344, u345, c346, c347, c348, c349, c350, c351, c352, c353], []⟩ wr) Q0) ⟨#[c0, .slice A L.length cap, .pointer (some ⟨p2, 0, none⟩), c3, u4, .pointer (some ⟨q, 0, none⟩), c6, .int .i64 g.from_, .int .i64 g.all, .pointer (some ⟨B9, 0, none⟩), tv, .int .i64 k, u12, u13, u14, u15, u16, u17, u18, u19, u20, u21, u22, u23, c24, c25, c26, c27, c28, c29, c30, c31, c32, c33, c34, c35, c36, c37, c38, c39, c40, c41, c42, c43, c44, c45, c46, c47, c48, c49, c50, c51, c52, c53, c54, c55, c56, c57, c58, u59, u60, u61, u62, u63, u64, u65, u66, u67, u68, u69, u70, u71, u72, u73, u74, u75, u76, u77, u78, u79, u80, u81, u82, u83, u84, u85, u86, u87, u88, u89, u90, u91, u92, u93, u94, u95, u96, u97, u98, u99, u100, u101, u102, u103, u104, u105, u106, u107, u108, u109, u110, u111, u112, u113, u114, u115, u116, u117, u118, u119, u120, u121, u122, u123, u124, u125, u126, u127, u128, u129, u130, u131, u132, u133, u134, u135, u136, u137, u138, u139, u140, u141, u142, u143, u144, u145, u146, u147, u148, u149, u150, u151, u152, u153, u154, u155, u156, u157, u158, u159, u160, u161, u162, u163, u164, u165, u166, u167, u168, u169, u170, u171, u172, u173, u174, u175, u176, u177, u178, u179, u180, u181, u182, u183, u184, u185, u186, u187, u188, u189, u190, u191, u192, u193, u194, u195, u196, u197, u198, u199, u200, u201, u202, u203, u204, u205, u206, u207, u208, u209, u210, u211, u212, u213, u214, u215, u216, u217, u218, u219, u220, u221, u222, u223, u224, u225, u226, u227, u228, u229, u230, u231, u232, u233, u234, u235, u236, u237, u238, u239, u240, u241, u242, u243, u244, u245, u246, u247, u248, u249, u250, u251, u252, u253, u254, u255, u256, u257, u258, u259, u260, u261, u262, u263, u264, u265, u266, u267, u268, u269, u270, u271, u272, u273, u274, u275, u276, u277, u278, u279, u280, u281, u282, u283, u284, u285, u286, u287, u288, u289, u290, u291, u292, u293, u294, u295, u296, u297, u298, u299, u300, u301, u302, u303, u304, u305, u306, u307, u308, u309, u310, u311, u312, u313, u314, u315, u316, u317, u318, u319, u320, u321, u322, u323, u324, u325, u326, u327, u328, u329, u330, u331, u332, u333, u334, u335, u336, u337, u338, u339, u340, u341, u342, u343, u344, u345, c346, c347, c348, c349, c350, c351, c352, c353], []⟩ wr := by
  subst hA
  have hltz : (k : Int) < (L.length : Int) := by omega
  have hfr := HS.out.frame
  obtain ⟨a0, a1, a2, a3, a4⟩ := HA.cell k hlt
  obtain ⟨⟨RA, rn, rc, hrv, hrn, hr6⟩, ⟨i1, i1'⟩, ⟨i2, i2'⟩, ⟨i3, i3'⟩, ⟨i4, i4'⟩⟩ := HA.runs k hlt
  have hbw := HA.blk
  replace a0 := (hfr.cell (by exact hbw)).trans a0
  replace a1 := (hfr.cell (by exact hbw)).trans a1
  replace a2 := (hfr.cell (by exact hbw)).trans a2
  replace a3 := (hfr.cell (by exact hbw)).trans a3
  replace a4 := (hfr.cell (by exact hbw)).trans a4
  have h6 : rn ≤ 6 := hsm _ _ _ hrv
  clear hsm
  rw [hrv] at a4 hr6
  generalize L[k]!.op = op at *
  generalize L[k]!.cl = cl at *
  generalize L[k]!.n = n at *
  generalize L[k]!.most = most at *
  generalize L[k]!.runs = runs at *
  clear hrv
  have HR6 := Kp.mk hr6
  have HAA := Kp.mk HA
  clear hr6 HA
  have hopa : (op == 0) = false := by simp [hop]
  have hopb : (op == 1) = true := by simp [hop]
  clear hop
  obtain ⟨wx, hwx⟩ : ∃ wx, wx = wr.alloc (.cells #[.int .i64 op, .int .i64 cl, .int .i64 n, .int .i64 most, .slice RA rn rc] 40) := ⟨_, rfl⟩
  obtain ⟨X, hX⟩ : ∃ X, X = wr.heap.size := ⟨_, rfl⟩
  have HSX : Kp (St w wx q B9 p2 g pv bs bv bs tv T) := ⟨by rw [hwx]; exact HS.out.below ((Below.refl _ _).alloc (Nat.le_refl _) _)⟩
  have HX : Kp (Blk wx X 40 #[.int .i64 op, .int .i64 cl, .int .i64 n, .int .i64 most, .slice RA rn rc]) := ⟨by rw [hwx, hX]; exact Blk.new _ _ _⟩
  have hXw : w.heap.size ≤ X := by rw [hX]; exact hfr.size
  have hXl : X < wx.heap.size := Blk.lt HX.out
  have x0 : wx.cell? ⟨X, 0, none⟩ = some (.int .i64 op) := Blk.cell HX.out 0
  have x1 : wx.cell? ⟨X, 1, none⟩ = some (.int .i64 cl) := Blk.cell HX.out 1
  have x2 : wx.cell? ⟨X, 2, none⟩ = some (.int .i64 n) := Blk.cell HX.out 2
  have x3 : wx.cell? ⟨X, 3, none⟩ = some (.int .i64 most) := Blk.cell HX.out 3
  have x4 : wx.cell? ⟨X, 4, none⟩ = some (.slice RA rn rc) := Blk.cell HX.out 4
  conv => arg 2; whnf
  go_upto_region 15 with fail
  rw [← hwx, ← hX]
  clear hwx hX a0 a1 a2 a3 a4 HS
  have h6b : decide ((6 : Int) < (rn : Int)) = false := by simp; omega
  have mixed := Try.sortR.mixed
  obtain ⟨At, ct, htv, _, _⟩ := (Sl.of_own HSX.out.told (by omega)).form (by omega)
  subst htv
  have q1b : decide (n < 0) = false := by simp; omega
  obtain ⟨N, rfl⟩ : ∃ N : Nat, n = N := ⟨n.toNat, by omega⟩
  have hN : N < T.length := by omega
  have q2b : decide (T.length ≤ N) = false := by simp; omega
  have q2c : decide ((T.length : Int) ≤ (N : Int)) = false := by simp; omega
  obtain ⟨gt, hgt⟩ : ∃ gt, At = some ⟨gt, 0, none⟩ := by
    rcases HSX.out.told.2 with ⟨_, e2⟩ | ⟨gt, c', cur, e1, _⟩
    · omega
    · injection e1 with e1; exact ⟨gt, e1⟩
  subst hgt
  obtain ⟨ex, hex⟩ : ∃ x, x = T[N] := ⟨_, rfl⟩
  obtain ⟨vr, out⟩ := ex
  have hmem : (vr, out) ∈ T := by rw [hex]; exact List.getElem_mem hN
  have hmap : (T.map (·.1))[N]? = some vr := by simp [hN, ← hex]
  have hsnd : (T.map (·.2))[N]'(by simpa using hN) = out := by simp [← hex]
  have hl24 : out.length ≤ 1024 := (HSX.out.ent _ hmem).2
  obtain ⟨Ar, cr, hvr, -, -⟩ := (Sl.of_own (HSX.out.ent _ hmem).1 (by simp only; omega)).form (by omega)
  simp only at hvr
  subst hvr
  have HRC : Kp (∀ W pvv pss bvv bss, St w W q B9 p2 g pvv pss bvv bss (.slice (some ⟨gt, 0, none⟩) T.length ct) T → W.cell? ⟨gt, N, none⟩ = some (.slice Ar out.length cr) ∧ W.ownsRow 0 52 2 (.slice Ar out.length cr) out.length (prs out)) := ⟨fun W _ _ _ _ h => ⟨by
    rw [h.told.cellAt N (by omega)]; exact hmap, (h.ent _ hmem).1⟩⟩
  have HOK : Kp (giveOk bs g out) := ⟨by have := HM.out.giveOk N (by simpa using hN); rwa [hsnd] at this⟩
  have HMG : Kp (Sim g (markL bs false out) ((T.map (·.2)).set N [])) := ⟨by have := HM.out.give N (by simpa using hN); rwa [hsnd] at this⟩
  have HEL : Kp (∀ r ∈ out, 1 ≤ r.2 ∧ g.from_ ≤ r.1 ∧ r.1 + r.2 ≤ g.from_ + g.all) := ⟨fun r hr => by
    have := HM.out.runs r (List.mem_flatten.2 ⟨out, by rw [← hsnd]; exact List.getElem_mem _, hr⟩); exact ⟨this.1, this.2.1, this.2.2.1⟩⟩
  have hgb := Geo.good_bd HM.out.good
  have hfa : (1 ≤ g.from_ ∧ 1 ≤ g.all ∧ g.from_ + g.all ≤ 1023) := by omega
  have hbl3 : bs.length ≤ 1024 := by have := HM.out.len; omega
  have hbl4 : 0 < bs.length := by have := HM.out.len; omega
  have hblw : g.b ≤ bs.length * 64 := by have := HM.out.len; omega
  have t0 : wx.cell? ⟨gt, N, none⟩ = some (.slice Ar out.length cr) := (HRC.out _ _ _ _ _ HSX.out).1
  have HGV : Kp _ := ⟨give_calls q g pv (.slice Ar out.length cr) bs out wx HSX.out.ok (own_ne_blk HSX.out.ok.ow HSX.out.ok.at_ (by decide)) (Sl.of_own (HRC.out _ _ _ _ _ HSX.out).2 (by omega)) (fun _ => own_ne_blk (HRC.out _ _ _ _ _ HSX.out).2 HSX.out.ok.at_ (by decide)) (by omega) hblw (fun x hx => by have := HEL.out x hx; omega)⟩
  clear hgb hblw hex hmem hmap hsnd x1 x3 i1 i1' i2 i2' i4 i4' HR6 HAA
  go_wp2_with fail
  refine HGV.out.mono ?_
  rintro e w2 hgive
  obtain ⟨rfl, pv2, hP⟩ : e = .returned (.int .i64 0) ∧ ∃ pv2, PoolTo wx w2 q g pv2 (markL bs false out) := by
    rcases hgive with ⟨_, h1, h2⟩ | ⟨h0, _⟩
    · exact ⟨h1, h2⟩
    · exact absurd HOK.out h0
  have HS5 : Kp (St w w2 q B9 p2 g pv2 (markL bs false out) bv (markL bs false (out.take 0)) (.slice (some ⟨gt, 0, none⟩) T.length ct) T) := ⟨HSX.out.pool hP⟩
  have HX5 : Kp (Blk w2 X 40 #[.int .i64 op, .int .i64 cl, .int .i64 N, .int .i64 most, .slice RA rn rc]) := ⟨Blk.grown HX.out hP.grown (by have := blk_ne HX.out HSX.out.ok.at_ (by decide); simp [this])⟩
  clear hgive hP HGV HOK HSX HX t0 x0 x2 x4 hXl h6b
  go_wp2_with fail
  go_loopw [19] (fun x wr => ∃ (j : Nat) (bv1 : Value), j ≤ out.length ∧ x = .int .i64 j ∧ Kp (St w wr q B9 p2 g pv2 (markL bs false out) bv1 (markL bs false (out.take j)) (.slice (some ⟨gt, 0, none⟩) T.length ct) T) ∧ Kp (Blk wr X 40 #[.int .i64 op, .int .i64 cl, .int .i64 N, .int .i64 most, .slice RA rn rc]))
    (fun x _ => out.length - (intOf x).toNat)
  case atStart => exact ⟨0, bv, Nat.zero_le _, rfl, HS5, HX5⟩
  case round =>
    clear HS5 HX5
    obtain ⟨j, bv1, hj, rfl, HS5, HX5⟩ := hrel
    have x2 : wr.cell? ⟨X, 2, none⟩ = some (.int .i64 N) := Blk.cell HX5.out 2
    have t0 : wr.cell? ⟨gt, N, none⟩ = some (.slice Ar out.length cr) := (HRC.out _ _ _ _ _ HS5.out).1
    by_cases hjl : j < out.length
    · obtain ⟨gr, hgr⟩ : ∃ gr, Ar = some ⟨gr, 0, none⟩ := by
        rcases (HRC.out _ _ _ _ _ HS5.out).2.2 with ⟨_, e2⟩ | ⟨gr, c', cur, e1, _⟩
        · omega
        · injection e1 with e1; exact ⟨gr, e1⟩
      subst hgr
      have HCC : Kp (∀ W pvv pss bvv bss, St w W q B9 p2 g pvv pss bvv bss (.slice (some ⟨gt, 0, none⟩) T.length ct) T → W.cell? ⟨gr, j * 2, none⟩ = some (.int .i64 (out.getD j (0, 0)).1) ∧ W.cell? ⟨gr, j * 2 + 1, none⟩ = some (.int .i64 (out.getD j (0, 0)).2)) := ⟨fun W _ _ _ _ h => by
        have hr := (HRC.out _ _ _ _ _ h).2
        exact ⟨(hr.cellAt (j * 2) (by omega)).trans (prs_get0 out j hjl), (hr.cellAt (j * 2 + 1) (by omega)).trans (prs_get1 out j hjl)⟩⟩
      have hel := HEL.out _ (getD_mem out (0, 0) j hjl)
      have HMS := Kp.mk (markL_snoc bs false out j hjl)
      obtain ⟨base, hbase⟩ : ∃ z, z = markL bs false (out.take j) := ⟨_, rfl⟩
      have HBL : Kp (base.length = bs.length) := ⟨by rw [hbase, markL_length]⟩
      rw [← hbase] at HS5 HMS
      generalize out.getD j (0, 0) = x at hel HCC HMS
      obtain ⟨p, nn⟩ := x
      simp only at hel HCC HMS
      obtain ⟨l1, l2, l3⟩ := hel
      have HS7 : Kp (St w wr q B9 p2 g pv2 (markL bs false out) bv1 (markOne base false p 0) (.slice (some ⟨gt, 0, none⟩) T.length ct) T) := ⟨HS5.out⟩
      have HX7 := HX5
      clear hbase HS5 HX5
      go_wp2_with fail
      go_loopw [20] (fun x wr => ∃ (t : Nat) (bv1 : Value), (t : Int) ≤ nn ∧ x = .int .i64 t ∧ Kp (St w wr q B9 p2 g pv2 (markL bs false out) bv1 (markOne base false p t) (.slice (some ⟨gt, 0, none⟩) T.length ct) T) ∧ Kp (Blk wr X 40 #[.int .i64 op, .int .i64 cl, .int .i64 N, .int .i64 most, .slice RA rn rc]))
        (fun x _ => (nn - intOf x).toNat)
      case atStart => exact ⟨0, bv1, by omega, rfl, HS7, HX7⟩
      case round =>
        clear HS7 HX7 x2 t0
        obtain ⟨t, bv3, ht, rfl, HS7, HX7⟩ := hrel
        obtain ⟨s0, s1⟩ := HCC.out wr _ _ _ _ HS7.out
        have x2 : wr.cell? ⟨X, 2, none⟩ = some (.int .i64 N) := Blk.cell HX7.out 2
        have t0 : wr.cell? ⟨gt, N, none⟩ = some (.slice (some ⟨gr, 0, none⟩) out.length cr) := (HRC.out _ _ _ _ _ HS7.out).1
        by_cases htl : (t : Int) < nn
        · skip
          obtain ⟨cur, hcur⟩ : ∃ z, z = markOne base false p t := ⟨_, rfl⟩
          have HCU : Kp (markOne base false p (t + 1) = setOne cur false (p + t)) := ⟨by rw [hcur]; rfl⟩
          have hcl : cur.length = bs.length := by rw [hcur, markOne_length, HBL.out]
          rw [← hcur] at HS7
          obtain ⟨A3, c3', hv3, -, -⟩ := (Sl.of_own HS7.out.brow (by omega)).form (by omega)
          subst hv3
          obtain ⟨x, hx⟩ : ∃ x, x = p + (t : Int) := ⟨_, rfl⟩
          have hw1 : IntKind.i64.wrap (p + (t : Int)) = x := by rw [hx, IntKind.wrap_i64] <;> omega
          have hx1 : -9223372036854775808 ≤ x ∧ x ≤ 9223372036854775807 := by omega
          have hB9l : B9 < wr.heap.size := HS7.out.b9len
          have u9 : wr.cell? ⟨B9, 0, none⟩ = some (.slice A3 cur.length c3') := Blk.cell HS7.out.b9 0
          have f9 : wr.frozen? ⟨B9, 0, none⟩ = false := Blk.frozen HS7.out.b9 0
          have hlj : (j : Int) < (out.length : Int) := by omega
          have hNT : (N : Int) < (T.length : Int) := by omega
          have KT : Kp (cur = markOne base false p t ∧ x = p + t ∧ (t : Int) < nn) := ⟨hcur, hx, htl⟩
          have hwj : Kp (wrap64 ((t : Int) + 1) = ((t + 1 : Nat) : Int)) := ⟨wrap64_in' t (by omega)⟩
          have HCN := Kp.mk hcl
          have hgq : gr < wr.heap.size := World.block_lt_of_cell? _ _ s0
          have hgtq : gt < wr.heap.size := World.block_lt_of_cell? _ _ t0
          have hXq : X < wr.heap.size := Blk.lt HX7.out
          have HSET : Kp (Calls Try.prog 17 #[.agg #[.slice A3 cur.length c3'], .bool false, .slice (some ⟨wr.heap.size, 0, none⟩) 1 1] (wr.alloc (.cells #[.int .i64 x] 3)).drew fun e w' => ∃ A' cp', e = .returned (.agg #[.slice A' cur.length cp']) ∧
              w'.cell? ⟨B9, 0, none⟩ = some (.slice A3 cur.length c3') ∧ w'.frozen? ⟨B9, 0, none⟩ = false ∧
              Kp (St w (w'.setCell ⟨B9, 0, none⟩ (.slice A' cur.length cp')) q B9 p2 g pv2 (markL bs false out) (.slice A' cur.length cp') (markOne base false p (t + 1)) (.slice (some ⟨gt, 0, none⟩) T.length ct) T ∧ Blk (w'.setCell ⟨B9, 0, none⟩ (.slice A' cur.length cp')) X 40 #[.int .i64 op, .int .i64 cl, .int .i64 N, .int .i64 most, .slice RA rn rc])) := by
            have hW0b : Below wr.heap.size wr (wr.alloc (.cells #[.int .i64 x] 3)).drew := below_drewN ((Below.refl _ _).alloc (Nat.le_refl _) _) 1
            have hlv : SlI (wr.alloc (.cells #[.int .i64 x] 3)).drew .i64 (.slice (some ⟨wr.heap.size, 0, none⟩) 1 1) [x] := ⟨rfl, by simp, Or.inr ⟨_, 1, rfl, by simp, fun i u hu => by
              rcases i with _ | i
              · simp [ints] at hu; subst hu; simp [World.drew, add_none]; exact Blk.cell (Blk.new wr 3 #[.int .i64 x]) 0
              · simp [ints] at hu⟩⟩
            refine ⟨(set_calls _ _ cur [x] false _ ((Sl.of_own HS7.out.brow (by omega)).below hW0b) hlv (by omega) (by omega) (by intro y hy; simp at hy; omega)).mono fun e w' h => ?_⟩
            obtain ⟨v', h1, h2, h3⟩ := h
            obtain ⟨A', cp', h4, _, _⟩ := (Sl.of_own h2 (by omega)).form (by omega)
            subst h4
            have hbw : Below wr.heap.size wr w' := below_then hW0b h3
            have hB := Blk.below HS7.out.b9 hbw (Blk.lt HS7.out.b9)
            have hc9 : w'.cell? ⟨B9, 0, none⟩ = some (.slice A3 cur.length c3') := Blk.cell hB 0
            rw [setOne_one, hx, ← HCU.out] at h2
            have hlen : (markOne base false p (t + 1)).length = cur.length := by rw [HCU.out, setOne_length]
            refine ⟨A', cp', h1, hc9, Blk.frozen hB 0, ⟨HS7.out.bits hbw (base := _) (bs' := markOne base false p (t + 1)) (by rw [hlen]; exact h2), Blk.far (Blk.below HX7.out hbw hXq) (blk_ne HX7.out HS7.out.b9 (by decide)) _⟩⟩
          clear hx HS7 HX7 hcl hx1 hcur
          go_wp2_with fail
          clear s1 q1b q2b q2c hfr
          refine wp_region_noPanic ?_
          go_region_with (go_at_call 17; refine HSET.out.mono ?_; rintro e w8 ⟨A', cp', rfl, hcc, hff, HI2⟩)
          all_goals refine NoPanic.normal ?_
          all_goals go_wp2_with fail
          all_goals exact ⟨⟨t + 1, _, by have := KT.out.2.2; omega, by first | rfl | simp, ⟨HI2.out.1⟩, ⟨HI2.out.2⟩⟩, by have := KT.out.2.2; simp only [intOf]; omega⟩
        · have htn : t = nn.toNat := by omega
          have HS8 : Kp (St w wr q B9 p2 g pv2 (markL bs false out) bv3 (markL bs false (out.take (j + 1))) (.slice (some ⟨gt, 0, none⟩) T.length ct) T) := ⟨by rw [HMS.out, ← htn]; exact HS7.out⟩
          clear HS7 htn
          go_wp2_with fail
          exact ⟨⟨j + 1, bv3, by omega, by go_num, HS8, HX7⟩, by simp [intOf]; omega⟩
    · have hje : j = out.length := by omega
      subst hje
      rw [List.take_length] at HS5
      obtain ⟨wl, hwl⟩ : ∃ wl, wl = wr := ⟨_, rfl⟩
      rw [← hwl] at HS5 HX5 x2 t0 ⊢
      clear hwl wr
      have ft : wl.frozen? ⟨gt, N, none⟩ = false := HS5.out.told.frozenAt N
      have hst := HS5.out.told.stored N (.slice none 0 0)
      have HSN : Kp (St w (wl.setCell ⟨gt, N, none⟩ (.slice none 0 0)) q B9 p2 g pv2 (markL bs false out) bv1 (markL bs false out) (.slice (some ⟨gt, 0, none⟩) T.length ct) (T.set N (.slice none 0 0, []))) := ⟨HS5.out.row hst.2 (by rw [List.length_set, List.map_set]; exact hst.1) (fun x hx => by
        rcases List.mem_or_eq_of_mem_set hx with hx | rfl
        · exact HS5.out.ent x hx
        · exact ⟨World.ownsRow_nil _ _ _ _, by simp⟩) (HS5.out.frame.setCell (by have := (HS5.out.told.lt gt rfl).1; exact this) _)⟩
      have HMN : Kp (Sim g (markL bs false out) ((T.set N (Value.slice none 0 0, [])).map (·.2))) := ⟨by rw [List.map_set]; exact HMG.out⟩
      clear hst
      obtain ⟨bs2, hbs2⟩ : ∃ z, z = markL bs false out := ⟨_, rfl⟩
      obtain ⟨T2, hT2e⟩ : ∃ z, z = T.set N (Value.slice none 0 0, []) := ⟨_, rfl⟩
      have hT2 : T2.length ≤ k + 1 := by rw [hT2e]; simp; omega
      rw [← hbs2, ← hT2e] at HSN HMN
      have hNT : (N : Int) < (T.length : Int) := by omega
      clear HS5 HX5 HMG HEL HRC hbs2 hT2e HM
      go_upto_region 58 with fail
      obtain ⟨ws, hws⟩ : ∃ z, z = wl.setCell ⟨gt, N, none⟩ (.slice none 0 0) := ⟨_, rfl⟩
      obtain ⟨tv2, htv2⟩ : ∃ z, z = (Value.slice (some ⟨gt, 0, none⟩) T.length ct) := ⟨_, rfl⟩
      rw [← hws, ← htv2] at HSN
      rw [← hws, ← htv2]
      have HS2 := HSN
      have HM2 := HMN
      clear HSN HMN hws htv2 x2 t0 ft
      have hl3 := HS2.out.ok.len
      have hl4 := HS2.out.ok.pos
      obtain ⟨A9, c9, hv9, _, _⟩ := (Sl.of_own HS2.out.brow (by omega)).form (by omega)
      subst hv9
      skip
      go_wp2_with fail
      refine (bits_calls q g pv2 bs2 _ HS2.out.ok).mono ?_
      rintro e wb ⟨vb, rfl, hob, hbb⟩
      obtain ⟨Ab, cb, hvb, _, _⟩ := (Sl.of_own hob (by omega)).form (by omega)
      subst hvb
      obtain ⟨wn, hwn⟩ : ∃ wn, wn = wb.alloc (.cells #[.slice Ab bs2.length cb] 33) := ⟨_, rfl⟩
      obtain ⟨N, hN⟩ : ∃ N, N = wb.heap.size := ⟨_, rfl⟩
      have HS3 : Kp (St w wn q B9 p2 g pv2 bs2 (.slice A9 bs2.length c9) bs2 tv2 T2) := ⟨by rw [hwn]; exact (HS2.out.below hbb).below ((Below.refl _ _).alloc (Nat.le_refl _) _)⟩
      have HN : Kp (Blk wn N 33 #[.slice Ab bs2.length cb]) := ⟨by rw [hwn, hN]; exact Blk.new _ _ _⟩
      have HOB : Kp (SlI wn .u64 (.slice Ab bs2.length cb) bs2) := ⟨Sl.of_own (by rw [hwn]; exact hob.alloc _) (by omega)⟩
      have HO9 : Kp (SlI wn .u64 (.slice A9 bs2.length c9) bs2) := ⟨Sl.of_own HS3.out.brow (by omega)⟩
      obtain ⟨Ax, cx, hvx, hcb, hxb⟩ := HOB.out.form
      obtain ⟨⟩ := hvx
      obtain ⟨Ay, cy, hvy, hc9, hx9⟩ := HO9.out.form
      obtain ⟨⟩ := hvy
      obtain ⟨bb, ob, hAb, hbbl, hcb'⟩ := hxb (by omega)
      obtain ⟨b9, o9, hA9, hb9l, hc9'⟩ := hx9 (by omega)
      subst hAb hA9
      have HCB := Kp.mk hcb'
      have HC9 := Kp.mk hc9'
      have hNl : N < wn.heap.size := Blk.lt HN.out
      have hBl : B9 < wn.heap.size := HS3.out.b9len
      have n0 : wn.cell? ⟨N, 0, none⟩ = some (.slice (some ⟨bb, ob, none⟩) bs2.length cb) := Blk.cell HN.out 0
      have n9 : wn.cell? ⟨B9, 0, none⟩ = some (.slice (some ⟨b9, o9, none⟩) bs2.length c9) := Blk.cell HS3.out.b9 0
      go_upto_region 59 with fail
      rw [← hwn, ← hN]
      clear hxb hx9 hcb' hc9' hwn hN hob hbb HS2 HOB HO9
      go_wp2_with fail
      go_loopw [23] (fun x wr => ∃ j : Nat, j ≤ bs2.length ∧ x = .int .i64 j ∧ Kp (Below wn.heap.size wn wr)) (fun x _ => bs2.length - (intOf x).toNat)
      case atStart => exact ⟨0, Nat.zero_le _, rfl, ⟨Below.refl _ _⟩⟩
      case round =>
        obtain ⟨j, hj, rfl, HB⟩ := hrel
        have m0 : wr.cell? ⟨N, 0, none⟩ = some (.slice (some ⟨bb, ob, none⟩) bs2.length cb) := (HB.out.cell (by exact hNl)).trans n0
        have m9 : wr.cell? ⟨B9, 0, none⟩ = some (.slice (some ⟨b9, o9, none⟩) bs2.length c9) := (HB.out.cell (by exact hBl)).trans n9
        by_cases hjl : j < bs2.length
        · have y0 : wr.cell? ⟨bb, ob + j, none⟩ = some (.int .u64 (bs2.getD j 0)) := (HB.out.cell (by exact hbbl)).trans (HCB.out j hjl)
          have y9 : wr.cell? ⟨b9, o9 + j, none⟩ = some (.int .u64 (bs2.getD j 0)) := (HB.out.cell (by exact hb9l)).trans (HC9.out j hjl)
          generalize bs2.getD j 0 = y at y0 y9
          go_wp2_with fail
          go_quiet (fail)
          go_wp2_with fail
          exact ⟨⟨j + 1, by omega, by go_num, ⟨below_drewN HB.out _⟩⟩, by simp [intOf]; omega⟩
        · have HS4 : Kp (St w wr q B9 p2 g pv2 bs2 (.slice (some ⟨b9, o9, none⟩) bs2.length c9) bs2 tv2 T2) := ⟨HS3.out.below HB.out⟩
          clear HS3 HN HCB HC9
          go_wp2_with fail
          refine ⟨?_, by simp [PMu, intOf]; omega⟩
          unfold PWI
          refine ⟨_, _, _, _, _, _, _, _, _, _, _, _, _, _, _, _, _, _, _, _, _, _, _, _, _, _, _, _, _, _, _, _, _, _, _, _, _, _, _, _, _, _, _, _, _, _, _, _, _, _, _, _, _, _, _, _, _, _, _, _, _, _, _, _, _, _, _, _, _, _, _, _, _, _, _, _, _, _, _, _, _, _, _, _, _, _, _, _, _, _, _, _, _, _, _, _, _, _, _, _, _, _, _, _, _, _, _, _, _, _, _, _, _, _, _, _, _, _, _, _, _, _, _, _, _, _, _, _, _, _, _, _, _, _, _, _, _, _, _, _, _, _, _, _, _, _, _, _, _, _, _, _, _, _, _, _, _, _, _, _, _, _, _, _, _, _, _, _, _, _, _, _, _, _, _, _, _, _, _, _, _, _, _, _, _, _, _, _, _, _, _, _, _, _, _, _, _, _, _, _, _, _, _, _, _, _, _, _, _, _, _, _, _, _, _, _, _, _, _, _, _, _, _, _, _, _, _, _, _, _, _, _, _, _, _, _, _, _, _, _, _, _, _, _, _, _, _, _, _, _, _, _, _, _, _, _, _, _, _, _, _, _, _, _, _, _, _, _, _, _, _, _, _, _, _, _, _, _, _, _, _, _, _, _, _, _, _, _, _, _, _, _, _, _, _, _, _, _, _, _, _, _, ?_, rfl⟩
          exact ⟨k + 1, pv2, _, bs2, T2, by first | rfl | simp, by omega, hT2, HS4, HM2⟩

end Go.Proofs.Ytdjnadnmlcpaaaa
