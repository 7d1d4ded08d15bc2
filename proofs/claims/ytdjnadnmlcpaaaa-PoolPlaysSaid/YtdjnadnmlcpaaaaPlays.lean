import Derived.Test.YtdjnadnmlcpaaaaPlLoop
import Derived.Deep.RegionHeld3
/-! PoolPlays: the walk. -/
namespace Go.Proofs.Ytdjnadnmlcpaaaa
open Go.RowKit

set_option maxHeartbeats 8000000 in
set_option maxRecDepth 100000 in
theorem plays_calls (g : Geo) (A : Option Addr) (cap : Nat) (L : List ActI) (w : World) (hL : L.length ≤ 9223372036854775807) (hin : 0 < L.length → L.length ≤ 30 → ∃ b o, A = some ⟨b, o, none⟩ ∧ ActsIn w b o L)
    (hgi : i64 g.b ∧ i64 g.n ∧ i64 g.c ∧ i64 g.k) :
    Calls Try.prog 3 #[g.val, .slice A L.length cap] w fun e w' => e = .returned (.bool true) ∧ Below w.heap.size w w' := by
  have mixed := Try.sortR.mixed
  have HIN := Kp.mk hin
  clear hin
  have hgd : ∀ W, Calls Try.prog 5 #[g.val] W fun e w' => e = .returned (.bool g.good) ∧ Below W.heap.size W w' := fun W => good_calls g W
  have HGD := Kp.mk hgd
  obtain ⟨gg, hgg⟩ : ∃ gg, gg = g.good := ⟨_, rfl⟩
  rw [← hgg] at HGD
  have HGG := Kp.mk hgg
  obtain ⟨g0, hg0⟩ : ∃ g0, g0 = g := ⟨_, rfl⟩
  have HG0 := Kp.mk hg0
  clear hgd hgg
  obtain ⟨gb, gn, gc, gk⟩ := g
  rw [← hg0] at HGG
  have hgv : g0.val = .agg #[.int .i64 gb, .int .i64 gn, .int .i64 gc, .int .i64 gk] := by rw [hg0]; rfl
  have HGV := Kp.mk hgv
  clear hgv hg0
  simp only [Geo.val] at HGD ⊢
  go_enter Try.func3, Try.ntmps3
  go_wp2_with fail
  refine (awake_calls _).mono ?_
  rintro e w1 ⟨rfl, hb1⟩
  have c0 := hb1.cell (p := ⟨w.heap.size, 0, none⟩) (by simp)
  have c1 := hb1.cell (p := ⟨w.heap.size, 1, none⟩) (by simp)
  have c2 := hb1.cell (p := ⟨w.heap.size, 2, none⟩) (by simp)
  have c3 := hb1.cell (p := ⟨w.heap.size, 3, none⟩) (by simp)
  simp at c0 c1 c2 c3
  have HP1 : Kp (Blk w1 w.heap.size 23 #[.int .i64 gb, .int .i64 gn, .int .i64 gc, .int .i64 gk]) := ⟨Blk.below (Blk.new w 23 _) hb1 (by simp)⟩
  have HB1 : Kp (Below w.heap.size w w1) := ⟨((Below.refl _ _).alloc (Nat.le_refl _) _).trans (hb1.mono (by simp))⟩
  obtain ⟨p2, hp2⟩ : ∃ p2, p2 = w.heap.size := ⟨_, rfl⟩
  have HP2 := Kp.mk hp2
  have hsz1 : p2 < w1.heap.size := by have := hb1.size; simp at this; omega
  rw [← hp2] at c0 c1 c2 c3 HP1
  rw [← hp2]
  clear hb1 hp2
  go_wp2_with fail
  refine (HGD.out _).mono ?_
  rintro e w2 ⟨rfl, hb2⟩
  have HB2 : Kp (Below w.heap.size w w2) := ⟨below_then HB1.out hb2⟩
  have HP2b : Kp (Blk w2 p2 23 #[.int .i64 gb, .int .i64 gn, .int .i64 gc, .int .i64 gk]) := ⟨Blk.below HP1.out hb2 hsz1⟩
  have hsz2 : p2 < w2.heap.size := by have := hb2.size; omega
  have d0 : w2.cell? ⟨p2, 0, none⟩ = some (.int .i64 gb) := Blk.cell HP2b.out 0
  clear c0 c1 c2 c3 hb2 HP1 HB1 hsz1
  cases gg with
  | false =>
    go_wp2_with fail
    go_ret
    exact ⟨rfl, HB2.out⟩
  | true =>
    by_cases h200 : 200 < gb
    · have h200b : decide (200 < gb) = true := by simpa using h200
      go_wp2_with fail
      go_ret
      exact ⟨rfl, HB2.out⟩
    · have h200b : decide (200 < gb) = false := by simpa using h200
      by_cases h30 : 30 < L.length
      · have h30b : decide ((30 : Int) < (L.length : Int)) = true := by simp; omega
        go_wp2_with fail
        go_ret
        exact ⟨rfl, HB2.out⟩
      · have h30b : decide ((30 : Int) < (L.length : Int)) = false := by simp; omega
        have HI : Kp (0 < L.length → ∃ b o, A = some ⟨b, o, none⟩ ∧ ActsIn w b o L) := ⟨fun h => HIN.out h (by omega)⟩
        have hgood : g0.good = true := HGG.out.symm
        have HEM : Kp (∀ W, Calls Try.prog 7 #[g0.val] W fun e w' => ∃ v', e = .returned (.agg #[v']) ∧ w'.ownsRow 0 58 1 v' (emptyW g0).length (ints .u64 (emptyW g0)) ∧ Below W.heap.size W w') := ⟨fun W => empty_calls g0 W hgood⟩
        rw [HGV.out] at HEM
        have HDT : Kp (∀ W, Calls Try.prog 8 #[g0.val] W fun e w' => e = .returned (.tuple #[.int .i64 g0.from_, .int .i64 g0.all]) ∧ Below W.heap.size W w') := ⟨fun W => by
          have := data_calls g0 W; rwa [(Geo.good_bd hgood).2.2.2.2.2.2.2] at this⟩
        rw [HGV.out] at HDT
        have HGO := Kp.mk hgood
        clear hgood HIN HGD
        go_upto_region 5 with fail
        have HS0 : Kp (w2.drew.cell? ⟨p2, 0, none⟩ = some (.int .i64 gb) ∧ w2.drew.cell? ⟨p2, 1, none⟩ = some (.int .i64 gn) ∧ w2.drew.cell? ⟨p2, 2, none⟩ = some (.int .i64 gc) ∧ w2.drew.cell? ⟨p2, 3, none⟩ = some (.int .i64 gk)) := ⟨Blk.cell HP2b.out 0, Blk.cell HP2b.out 1, Blk.cell HP2b.out 2, Blk.cell HP2b.out 3⟩
        have HSK : Kp (∀ W, Below w2.drew.heap.size w2.drew W → W.cell? ⟨p2, 0, none⟩ = some (.int .i64 gb) ∧ W.cell? ⟨p2, 1, none⟩ = some (.int .i64 gn) ∧ W.cell? ⟨p2, 2, none⟩ = some (.int .i64 gc) ∧ W.cell? ⟨p2, 3, none⟩ = some (.int .i64 gk)) := ⟨fun W hW => ⟨(hW.cell hsz2).trans HS0.out.1, (hW.cell hsz2).trans HS0.out.2.1, (hW.cell hsz2).trans HS0.out.2.2.1, (hW.cell hsz2).trans HS0.out.2.2.2⟩⟩
        have HLE : Kp ((emptyW g0).length = (gb.toNat + 63) / 64 ∧ 64 ≤ gb ∧ g0.b = gb) := ⟨by
          rw [emptyW, emptyTo_len, HG0.out], by have := (Geo.good_bd HGO.out).1.1; rw [HG0.out] at this; exact this, by rw [HG0.out]⟩
        have HNW : Kp (∀ W v, W.ownsRow 0 58 1 v (emptyW g0).length (ints .u64 (emptyW g0)) → Calls Try.prog 6 #[g0.val, .agg #[v]] W fun e w' => ∃ q v', e = .returned (.tuple #[.pointer (some ⟨q, 0, none⟩), .int .i64 0]) ∧ W.heap.size ≤ q ∧ Kp (PoolOk w' q g0 v' (emptyW g0)) ∧ Below W.heap.size W w') := ⟨fun W v hv => by
          obtain ⟨k1, k2, k3⟩ := HLE.out
          refine (pnew_calls g0 v (emptyW g0) W HGO.out (Sl.of_own hv (by omega)) (by omega) (by omega) (by rw [k3]; omega)).mono fun e w' h => ?_
          obtain ⟨q, v', h1, h2, h3, _, _, h4⟩ := h
          exact ⟨q, v', h1, h2, ⟨h3⟩, h4⟩⟩
        rw [HGV.out] at HNW
        clear d0
        go_region_held3 (fun w' => w'.cell? ⟨p2, 0, none⟩ = some (.int .i64 gb) ∧ w'.cell? ⟨p2, 1, none⟩ = some (.int .i64 gn) ∧ w'.cell? ⟨p2, 2, none⟩ = some (.int .i64 gc) ∧ w'.cell? ⟨p2, 3, none⟩ = some (.int .i64 gk))
          (first
            | exact HSK.out _ (below_then hb3 hb4)
            | exact HSK.out _ hb3
            | with_reducible exact HS0.out)
          (first
            | (go_at_call 7; refine (HEM.out _).mono ?_; rintro e w3 ⟨v3, rfl, hs3, hb3⟩)
            | (go_at_call 6; refine (HNW.out _ _ hs3).mono ?_; rintro e w4 ⟨q, v4, rfl, hq4, hP4, hb4⟩))
        have hb24 : Below w2.heap.size w2 w4 := by
          have h1 : Below w2.drew.heap.size w2.drew w4 := below_then hb3 hb4
          exact ⟨h1.os, h1.tape, h1.output, h1.size, h1.block⟩
        have HB4 : Kp (Below w.heap.size w w4) := ⟨below_then HB2.out hb24⟩
        have HP4b : Kp (Blk w4 p2 23 #[.int .i64 gb, .int .i64 gn, .int .i64 gc, .int .i64 gk]) := ⟨Blk.below HP2b.out hb24 hsz2⟩
        have hq4b : p2 < q ∧ q < w4.heap.size ∧ p2 < w4.heap.size := ⟨by have : w2.heap.size ≤ w3.heap.size := hb3.size; omega, Blk.lt hP4.out.at_, by have := hb24.size; omega⟩
        have e0 : w4.cell? ⟨p2, 0, none⟩ = some (.int .i64 gb) := Blk.cell HP4b.out 0
        have e1 : w4.cell? ⟨p2, 1, none⟩ = some (.int .i64 gn) := Blk.cell HP4b.out 1
        have e2 : w4.cell? ⟨p2, 2, none⟩ = some (.int .i64 gc) := Blk.cell HP4b.out 2
        have e3 : w4.cell? ⟨p2, 3, none⟩ = some (.int .i64 gk) := Blk.cell HP4b.out 3
        clear hb3 hb4 hb24 HS0 HSK HNW hs3 hq4 HB2 HP2b hsz2
        go_wp2_with fail
        refine (HDT.out _).mono ?_
        rintro e w5 ⟨rfl, hb5⟩
        have HB5 : Kp (Below w.heap.size w w5) := ⟨below_then HB4.out hb5⟩
        have HP5b : Kp (Blk w5 p2 23 #[.int .i64 gb, .int .i64 gn, .int .i64 gc, .int .i64 gk]) := ⟨Blk.below HP4b.out hb5 hq4b.2.2⟩
        have HPO5 : Kp (PoolOk w5 q g0 v4 (emptyW g0)) := ⟨hP4.out.below hb5⟩
        have hs5 : w4.heap.size ≤ w5.heap.size := hb5.size
        replace e0 : w5.cell? ⟨p2, 0, none⟩ = some (.int .i64 gb) := Blk.cell HP5b.out 0
        replace e1 : w5.cell? ⟨p2, 1, none⟩ = some (.int .i64 gn) := Blk.cell HP5b.out 1
        replace e2 : w5.cell? ⟨p2, 2, none⟩ = some (.int .i64 gc) := Blk.cell HP5b.out 2
        replace e3 : w5.cell? ⟨p2, 3, none⟩ = some (.int .i64 gk) := Blk.cell HP5b.out 3
        clear hb5 HDT hP4 HB4 HP4b
        go_wp2_with fail
        refine (HEM.out _).mono ?_
        rintro e w6 ⟨v6, rfl, hs6, hb6⟩
        have HB6 : Kp (Below w.heap.size w w6) := ⟨below_then HB5.out hb6⟩
        have hs6b : w5.heap.size ≤ w6.heap.size := hb6.size
        obtain ⟨A6, cp6, hv6, _, _⟩ := (Sl.of_own hs6 (by have := HLE.out; omega)).form (by omega)
        subst hv6
        obtain ⟨w7, hw7⟩ : ∃ w7, w7 = w6.alloc (.cells #[.slice A6 (emptyW g0).length cp6] 33) := ⟨_, rfl⟩
        obtain ⟨B9, hB9⟩ : ∃ B9, B9 = w6.heap.size := ⟨_, rfl⟩
        have hb57 : Below w5.heap.size w5 w7 := by rw [hw7]; exact hb6.alloc hs6b _
        have HST : Kp (St w w7 q B9 p2 g0 v4 (emptyW g0) (.slice A6 (emptyW g0).length cp6) (emptyW g0) (.slice none 0 0) []) := ⟨⟨HPO5.out.below hb57, by rw [hw7, hB9]; exact Blk.new _ _ _, by rw [hw7]; exact hs6.alloc _,
          by have := Blk.below HP5b.out hb57 (by omega); rw [HG0.out]; exact this, World.ownsRow_nil _ _ _ _, fun x hx => by simp at hx, below_then HB5.out hb57, by have := HP2.out; have := HB5.out.size; omega⟩⟩
        have HSM : Kp (Sim g0 (emptyW g0) []) := ⟨Sim.start HGO.out⟩
        go_upto_region 10 with fail
        rw [← hw7, ← hB9]
        clear hs6 hb6 hw7 hB9 hb57 HPO5 HP5b HEM HB6 hs6b e0 e1 e2 e3 HB5
        go_wp2_with fail
        refine pl_loop w A cap q B9 p2 g0 L _ _ _ _ _ _ _ _ _ _ _ _ _ _ _ _ _ _ _ _ _ _ _ _ _ _ _ _ _ _ _ _ _ _ _ _ _ _ _ _ _ _ _ _ _ _ _ _ _ _ _ _ _ _ _ _ _ _ _ _ _ _ _ _ _ _ _ _ _ _ _ _ _ _ _ _ _ _ _ _ _ _ _ _ _ _ _ _ _ _ _ _ _ _ _ _ _ _ _ _ _ _ _ _ _ _ _ _ _ _ _ _ _ _ _ _ _ _ _ _ _ _ _ _ _ _ _ _ _ _ _ _ _ _ _ _ _ _ _ _ _ _ _ _ _ _ _ _ _ _ _ _ _ _ _ _ _ _ _ _ _ _ _ _ _ _ _ _ _ _ _ _ _ _ _ _ _ _ _ _ _ _ _ _ _ _ _ _ _ _ _ _ _ _ _ _ _ _ _ _ _ _ _ _ _ _ _ _ _ _ _ _ _ _ _ _ _ _ _ _ _ _ _ _ _ _ _ _ _ _ _ _ _ _ _ _ _ _ _ _ _ _ _ _ _ _ _ _ _ _ _ _ _ _ _ _ _ _ _ _ _ _ _ _ _ _ _ _ _ _ _ _ _ _ _ _ _ _ _ _ _ _ _ _ _ _ _ _ _ _ _ _ _ _ _ _ _ _ _ _ _ _ _ _ _ _ _ _ _ _ _ _ _ _ _ _ _ _ _ _ _ _ _ _ _ _ _ _ _ _ _ _ _ _ _ _ _ _ _ _ _ _ _ _ _ _ _ _ HI.out (by omega) _ ?_ ?_ w7 ⟨0, v4, _, emptyW g0, [], rfl, Nat.zero_le _, Nat.le_refl _, HST, HSM⟩
        · intro a' w8 hI
          unfold PWI at hI
          obtain ⟨u4, hI⟩ := hI
          obtain ⟨u10, hI⟩ := hI
          obtain ⟨u11, hI⟩ := hI
          obtain ⟨u12, hI⟩ := hI
          obtain ⟨u13, hI⟩ := hI
          obtain ⟨u14, hI⟩ := hI
          obtain ⟨u15, hI⟩ := hI
          obtain ⟨u16, hI⟩ := hI
          obtain ⟨u17, hI⟩ := hI
          obtain ⟨u18, hI⟩ := hI
          obtain ⟨u19, hI⟩ := hI
          obtain ⟨u20, hI⟩ := hI
          obtain ⟨u21, hI⟩ := hI
          obtain ⟨u22, hI⟩ := hI
          obtain ⟨u23, hI⟩ := hI
          obtain ⟨u59, hI⟩ := hI
          obtain ⟨u60, hI⟩ := hI
          obtain ⟨u61, hI⟩ := hI
          obtain ⟨u62, hI⟩ := hI
          obtain ⟨u63, hI⟩ := hI
          obtain ⟨u64, hI⟩ := hI
          obtain ⟨u65, hI⟩ := hI
          obtain ⟨u66, hI⟩ := hI
          obtain ⟨u67, hI⟩ := hI
          obtain ⟨u68, hI⟩ := hI
          obtain ⟨u69, hI⟩ := hI
          obtain ⟨u70, hI⟩ := hI
          obtain ⟨u71, hI⟩ := hI
          obtain ⟨u72, hI⟩ := hI
          obtain ⟨u73, hI⟩ := hI
          obtain ⟨u74, hI⟩ := hI
          obtain ⟨u75, hI⟩ := hI
          obtain ⟨u76, hI⟩ := hI
          obtain ⟨u77, hI⟩ := hI
          obtain ⟨u78, hI⟩ := hI
          obtain ⟨u79, hI⟩ := hI
          obtain ⟨u80, hI⟩ := hI
          obtain ⟨u81, hI⟩ := hI
          obtain ⟨u82, hI⟩ := hI
          obtain ⟨u83, hI⟩ := hI
          obtain ⟨u84, hI⟩ := hI
          obtain ⟨u85, hI⟩ := hI
          obtain ⟨u86, hI⟩ := hI
          obtain ⟨u87, hI⟩ := hI
          obtain ⟨u88, hI⟩ := hI
          obtain ⟨u89, hI⟩ := hI
          obtain ⟨u90, hI⟩ := hI
          obtain ⟨u91, hI⟩ := hI
          obtain ⟨u92, hI⟩ := hI
          obtain ⟨u93, hI⟩ := hI
          obtain ⟨u94, hI⟩ := hI
          obtain ⟨u95, hI⟩ := hI
          obtain ⟨u96, hI⟩ := hI
          obtain ⟨u97, hI⟩ := hI
          obtain ⟨u98, hI⟩ := hI
          obtain ⟨u99, hI⟩ := hI
          obtain ⟨u100, hI⟩ := hI
          obtain ⟨u101, hI⟩ := hI
          obtain ⟨u102, hI⟩ := hI
          obtain ⟨u103, hI⟩ := hI
          obtain ⟨u104, hI⟩ := hI
          obtain ⟨u105, hI⟩ := hI
          obtain ⟨u106, hI⟩ := hI
          obtain ⟨u107, hI⟩ := hI
          obtain ⟨u108, hI⟩ := hI
          obtain ⟨u109, hI⟩ := hI
          obtain ⟨u110, hI⟩ := hI
          obtain ⟨u111, hI⟩ := hI
          obtain ⟨u112, hI⟩ := hI
          obtain ⟨u113, hI⟩ := hI
          obtain ⟨u114, hI⟩ := hI
          obtain ⟨u115, hI⟩ := hI
          obtain ⟨u116, hI⟩ := hI
          obtain ⟨u117, hI⟩ := hI
          obtain ⟨u118, hI⟩ := hI
          obtain ⟨u119, hI⟩ := hI
          obtain ⟨u120, hI⟩ := hI
          obtain ⟨u121, hI⟩ := hI
          obtain ⟨u122, hI⟩ := hI
          obtain ⟨u123, hI⟩ := hI
          obtain ⟨u124, hI⟩ := hI
          obtain ⟨u125, hI⟩ := hI
          obtain ⟨u126, hI⟩ := hI
          obtain ⟨u127, hI⟩ := hI
          obtain ⟨u128, hI⟩ := hI
          obtain ⟨u129, hI⟩ := hI
          obtain ⟨u130, hI⟩ := hI
          obtain ⟨u131, hI⟩ := hI
          obtain ⟨u132, hI⟩ := hI
          obtain ⟨u133, hI⟩ := hI
          obtain ⟨u134, hI⟩ := hI
          obtain ⟨u135, hI⟩ := hI
          obtain ⟨u136, hI⟩ := hI
          obtain ⟨u137, hI⟩ := hI
          obtain ⟨u138, hI⟩ := hI
          obtain ⟨u139, hI⟩ := hI
          obtain ⟨u140, hI⟩ := hI
          obtain ⟨u141, hI⟩ := hI
          obtain ⟨u142, hI⟩ := hI
          obtain ⟨u143, hI⟩ := hI
          obtain ⟨u144, hI⟩ := hI
          obtain ⟨u145, hI⟩ := hI
          obtain ⟨u146, hI⟩ := hI
          obtain ⟨u147, hI⟩ := hI
          obtain ⟨u148, hI⟩ := hI
          obtain ⟨u149, hI⟩ := hI
          obtain ⟨u150, hI⟩ := hI
          obtain ⟨u151, hI⟩ := hI
          obtain ⟨u152, hI⟩ := hI
          obtain ⟨u153, hI⟩ := hI
          obtain ⟨u154, hI⟩ := hI
          obtain ⟨u155, hI⟩ := hI
          obtain ⟨u156, hI⟩ := hI
          obtain ⟨u157, hI⟩ := hI
          obtain ⟨u158, hI⟩ := hI
          obtain ⟨u159, hI⟩ := hI
          obtain ⟨u160, hI⟩ := hI
          obtain ⟨u161, hI⟩ := hI
          obtain ⟨u162, hI⟩ := hI
          obtain ⟨u163, hI⟩ := hI
          obtain ⟨u164, hI⟩ := hI
          obtain ⟨u165, hI⟩ := hI
          obtain ⟨u166, hI⟩ := hI
          obtain ⟨u167, hI⟩ := hI
          obtain ⟨u168, hI⟩ := hI
          obtain ⟨u169, hI⟩ := hI
          obtain ⟨u170, hI⟩ := hI
          obtain ⟨u171, hI⟩ := hI
          obtain ⟨u172, hI⟩ := hI
          obtain ⟨u173, hI⟩ := hI
          obtain ⟨u174, hI⟩ := hI
          obtain ⟨u175, hI⟩ := hI
          obtain ⟨u176, hI⟩ := hI
          obtain ⟨u177, hI⟩ := hI
          obtain ⟨u178, hI⟩ := hI
          obtain ⟨u179, hI⟩ := hI
          obtain ⟨u180, hI⟩ := hI
          obtain ⟨u181, hI⟩ := hI
          obtain ⟨u182, hI⟩ := hI
          obtain ⟨u183, hI⟩ := hI
          obtain ⟨u184, hI⟩ := hI
          obtain ⟨u185, hI⟩ := hI
          obtain ⟨u186, hI⟩ := hI
          obtain ⟨u187, hI⟩ := hI
          obtain ⟨u188, hI⟩ := hI
          obtain ⟨u189, hI⟩ := hI
          obtain ⟨u190, hI⟩ := hI
          obtain ⟨u191, hI⟩ := hI
          obtain ⟨u192, hI⟩ := hI
          obtain ⟨u193, hI⟩ := hI
          obtain ⟨u194, hI⟩ := hI
          obtain ⟨u195, hI⟩ := hI
          obtain ⟨u196, hI⟩ := hI
          obtain ⟨u197, hI⟩ := hI
          obtain ⟨u198, hI⟩ := hI
          obtain ⟨u199, hI⟩ := hI
          obtain ⟨u200, hI⟩ := hI
          obtain ⟨u201, hI⟩ := hI
          obtain ⟨u202, hI⟩ := hI
          obtain ⟨u203, hI⟩ := hI
          obtain ⟨u204, hI⟩ := hI
          obtain ⟨u205, hI⟩ := hI
          obtain ⟨u206, hI⟩ := hI
          obtain ⟨u207, hI⟩ := hI
          obtain ⟨u208, hI⟩ := hI
          obtain ⟨u209, hI⟩ := hI
          obtain ⟨u210, hI⟩ := hI
          obtain ⟨u211, hI⟩ := hI
          obtain ⟨u212, hI⟩ := hI
          obtain ⟨u213, hI⟩ := hI
          obtain ⟨u214, hI⟩ := hI
          obtain ⟨u215, hI⟩ := hI
          obtain ⟨u216, hI⟩ := hI
          obtain ⟨u217, hI⟩ := hI
          obtain ⟨u218, hI⟩ := hI
          obtain ⟨u219, hI⟩ := hI
          obtain ⟨u220, hI⟩ := hI
          obtain ⟨u221, hI⟩ := hI
          obtain ⟨u222, hI⟩ := hI
          obtain ⟨u223, hI⟩ := hI
          obtain ⟨u224, hI⟩ := hI
          obtain ⟨u225, hI⟩ := hI
          obtain ⟨u226, hI⟩ := hI
          obtain ⟨u227, hI⟩ := hI
          obtain ⟨u228, hI⟩ := hI
          obtain ⟨u229, hI⟩ := hI
          obtain ⟨u230, hI⟩ := hI
          obtain ⟨u231, hI⟩ := hI
          obtain ⟨u232, hI⟩ := hI
          obtain ⟨u233, hI⟩ := hI
          obtain ⟨u234, hI⟩ := hI
          obtain ⟨u235, hI⟩ := hI
          obtain ⟨u236, hI⟩ := hI
          obtain ⟨u237, hI⟩ := hI
          obtain ⟨u238, hI⟩ := hI
          obtain ⟨u239, hI⟩ := hI
          obtain ⟨u240, hI⟩ := hI
          obtain ⟨u241, hI⟩ := hI
          obtain ⟨u242, hI⟩ := hI
          obtain ⟨u243, hI⟩ := hI
          obtain ⟨u244, hI⟩ := hI
          obtain ⟨u245, hI⟩ := hI
          obtain ⟨u246, hI⟩ := hI
          obtain ⟨u247, hI⟩ := hI
          obtain ⟨u248, hI⟩ := hI
          obtain ⟨u249, hI⟩ := hI
          obtain ⟨u250, hI⟩ := hI
          obtain ⟨u251, hI⟩ := hI
          obtain ⟨u252, hI⟩ := hI
          obtain ⟨u253, hI⟩ := hI
          obtain ⟨u254, hI⟩ := hI
          obtain ⟨u255, hI⟩ := hI
          obtain ⟨u256, hI⟩ := hI
          obtain ⟨u257, hI⟩ := hI
          obtain ⟨u258, hI⟩ := hI
          obtain ⟨u259, hI⟩ := hI
          obtain ⟨u260, hI⟩ := hI
          obtain ⟨u261, hI⟩ := hI
          obtain ⟨u262, hI⟩ := hI
          obtain ⟨u263, hI⟩ := hI
          obtain ⟨u264, hI⟩ := hI
          obtain ⟨u265, hI⟩ := hI
          obtain ⟨u266, hI⟩ := hI
          obtain ⟨u267, hI⟩ := hI
          obtain ⟨u268, hI⟩ := hI
          obtain ⟨u269, hI⟩ := hI
          obtain ⟨u270, hI⟩ := hI
          obtain ⟨u271, hI⟩ := hI
          obtain ⟨u272, hI⟩ := hI
          obtain ⟨u273, hI⟩ := hI
          obtain ⟨u274, hI⟩ := hI
          obtain ⟨u275, hI⟩ := hI
          obtain ⟨u276, hI⟩ := hI
          obtain ⟨u277, hI⟩ := hI
          obtain ⟨u278, hI⟩ := hI
          obtain ⟨u279, hI⟩ := hI
          obtain ⟨u280, hI⟩ := hI
          obtain ⟨u281, hI⟩ := hI
          obtain ⟨u282, hI⟩ := hI
          obtain ⟨u283, hI⟩ := hI
          obtain ⟨u284, hI⟩ := hI
          obtain ⟨u285, hI⟩ := hI
          obtain ⟨u286, hI⟩ := hI
          obtain ⟨u287, hI⟩ := hI
          obtain ⟨u288, hI⟩ := hI
          obtain ⟨u289, hI⟩ := hI
          obtain ⟨u290, hI⟩ := hI
          obtain ⟨u291, hI⟩ := hI
          obtain ⟨u292, hI⟩ := hI
          obtain ⟨u293, hI⟩ := hI
          obtain ⟨u294, hI⟩ := hI
          obtain ⟨u295, hI⟩ := hI
          obtain ⟨u296, hI⟩ := hI
          obtain ⟨u297, hI⟩ := hI
          obtain ⟨u298, hI⟩ := hI
          obtain ⟨u299, hI⟩ := hI
          obtain ⟨u300, hI⟩ := hI
          obtain ⟨u301, hI⟩ := hI
          obtain ⟨u302, hI⟩ := hI
          obtain ⟨u303, hI⟩ := hI
          obtain ⟨u304, hI⟩ := hI
          obtain ⟨u305, hI⟩ := hI
          obtain ⟨u306, hI⟩ := hI
          obtain ⟨u307, hI⟩ := hI
          obtain ⟨u308, hI⟩ := hI
          obtain ⟨u309, hI⟩ := hI
          obtain ⟨u310, hI⟩ := hI
          obtain ⟨u311, hI⟩ := hI
          obtain ⟨u312, hI⟩ := hI
          obtain ⟨u313, hI⟩ := hI
          obtain ⟨u314, hI⟩ := hI
          obtain ⟨u315, hI⟩ := hI
          obtain ⟨u316, hI⟩ := hI
          obtain ⟨u317, hI⟩ := hI
          obtain ⟨u318, hI⟩ := hI
          obtain ⟨u319, hI⟩ := hI
          obtain ⟨u320, hI⟩ := hI
          obtain ⟨u321, hI⟩ := hI
          obtain ⟨u322, hI⟩ := hI
          obtain ⟨u323, hI⟩ := hI
          obtain ⟨u324, hI⟩ := hI
          obtain ⟨u325, hI⟩ := hI
          obtain ⟨u326, hI⟩ := hI
          obtain ⟨u327, hI⟩ := hI
          obtain ⟨u328, hI⟩ := hI
          obtain ⟨u329, hI⟩ := hI
          obtain ⟨u330, hI⟩ := hI
          obtain ⟨u331, hI⟩ := hI
          obtain ⟨u332, hI⟩ := hI
          obtain ⟨u333, hI⟩ := hI
          obtain ⟨u334, hI⟩ := hI
          obtain ⟨u335, hI⟩ := hI
          obtain ⟨u336, hI⟩ := hI
          obtain ⟨u337, hI⟩ := hI
          obtain ⟨u338, hI⟩ := hI
          obtain ⟨u339, hI⟩ := hI
          obtain ⟨u340, hI⟩ := hI
          obtain ⟨u341, hI⟩ := hI
          obtain ⟨u342, hI⟩ := hI
          obtain ⟨u343, hI⟩ := hI
          obtain ⟨u344, hI⟩ := hI
          obtain ⟨u345, hI⟩ := hI
          obtain ⟨hrel, hae⟩ := hI
          unfold PRel at hrel
          obtain ⟨k, pv, bv, bs, T, hx, hk, hT, HS, HM⟩ := hrel
          subst hae
          obtain ⟨A9, c9, hv9, -, -⟩ := (Sl.of_own HS.out.brow (by have := HM.out.len; have := Geo.good_bd HM.out.good; omega)).form (by omega)
          subst hv9
          have HB8 : Kp (Below w.heap.size w w8) := ⟨HS.out.frame⟩
          have hB9l : B9 < w8.heap.size := HS.out.b9len
          have hp2l : p2 < w8.heap.size := Blk.lt HS.out.bx
          have hgb : g0.b = gb := by rw [HG0.out]
          have e0 : w8.cell? ⟨p2, 0, none⟩ = some (.int .i64 gb) := by rw [← hgb]; exact Blk.cell HS.out.bx 0
          have e9 : w8.cell? ⟨B9, 0, none⟩ = some (.slice A9 bs.length c9) := Blk.cell HS.out.b9 0
          have HSK8 : Kp (∀ W, Below w8.heap.size w8 W → W.cell? ⟨p2, 0, none⟩ = some (.int .i64 gb) ∧ W.cell? ⟨B9, 0, none⟩ = some (.slice A9 bs.length c9)) := ⟨fun W hW => ⟨(hW.cell hp2l).trans e0, (hW.cell hB9l).trans e9⟩⟩
          have b0 : Below w8.heap.size w8 w8.drew := below_drewN (Below.refl _ _) 1
          have hfr : freeN bs g0 = gb - (countB bs : Int) := by rw [← hgb]; exact count_free HM.out
          have hfb := freeN_bd HM.out
          have hbl : g0.b ≤ bs.length * 64 := by
            have := HM.out.len
            obtain ⟨gb1, -, -, -, ga, gf, ge, gd⟩ := Geo.good_bd HM.out.good
            omega
          have hbs3 : bs.length ≤ 1024 := by have := HM.out.len; have := Geo.good_bd HM.out.good; omega
          have HFW : Kp (∀ W, Below w8.heap.size w8 W → Calls Try.prog 19 #[.pointer (some ⟨q, 0, none⟩)] W fun e w' => e = .returned (.int .i64 (freeN bs g0)) ∧ Below W.heap.size W w') := ⟨fun W hW => free_calls q g0 pv bs W (HS.out.ok.below hW) hbl⟩
          have HCW : Kp (∀ W, Below w8.heap.size w8 W → Calls Try.prog 21 #[.agg #[.slice A9 bs.length c9]] W fun e w' => e = .returned (.int .i64 (countB bs)) ∧ Below W.heap.size W w') := ⟨fun W hW => count_calls _ bs W ((Sl.of_own HS.out.brow (by omega)).below hW) hbs3⟩
          obtain ⟨fr, hfe⟩ : ∃ z, z = freeN bs g0 := ⟨_, rfl⟩
          obtain ⟨cn, hcn⟩ : ∃ z, z = (countB bs : Int) := ⟨_, rfl⟩
          rw [← hfe] at hfr hfb HFW
          rw [← hcn] at hfr HCW
          have hw1 : IntKind.i64.wrap (gb - cn) = fr := by rw [hfr, IntKind.wrap_i64] <;> omega
          have hw2 : (fr == fr) = true := by simp
          clear hx HST HSM HS HM e0 e9 hgb hfr hfb hbl hbs3 hfe hcn
          go_wp2_with fail
          go_region_held3 (fun w' => w'.cell? ⟨p2, 0, none⟩ = some (.int .i64 gb) ∧ w'.cell? ⟨B9, 0, none⟩ = some (.slice A9 bs.length c9))
            (first
              | exact HSK8.out _ bB
              | exact HSK8.out _ bA
              | exact HSK8.out _ b0)
            (first
              | (go_at_call 19; refine (HFW.out _ b0).mono ?_; rintro e wA ⟨rfl, hbA⟩; have bA := below_then b0 hbA)
              | (go_at_call 21; refine (HCW.out _ bA).mono ?_; rintro e wB ⟨rfl, hbB⟩; have bB := below_then bA hbB))
          have HBF : Kp (Below w.heap.size w wB) := ⟨HB8.out.trans (bB.mono HB8.out.size)⟩
          go_wp2_with fail
          go_ret
          exact ⟨rfl, HBF.out⟩
        · intro a' w8 h1 h2 hB
          refine bodyPost_ret (fn := Try.f3) (P := Try.prog) (R := fun e w' => e = .returned (.bool true) ∧ Below w.heap.size w w') (v := .bool true) ?_ h2 ⟨rfl, hB⟩
          simp only [Array.getD_eq_getD_getElem?] at h1
          simp [results, Try.results3, go_sem, h1]
end Go.Proofs.Ytdjnadnmlcpaaaa
