import Derived.Test.YtdjnadnmlcpaaaaGive
/-! The law's empty bits. -/
namespace Go.Proofs.Ytdjnadnmlcpaaaa
open Go.RowKit

def emptyTo (g : Geo) : Nat → List Int
  | 0 => List.replicate ((g.b.toNat + 63) / 64) 0
  | i + 1 => if (i : Int) < g.from_ ∨ g.from_ + g.all ≤ (i : Int) then setOne (emptyTo g i) true i else emptyTo g i
def emptyW (g : Geo) : List Int := emptyTo g g.b.toNat
theorem emptyTo_len (g : Geo) (i : Nat) : (emptyTo g i).length = (g.b.toNat + 63) / 64 := by
  induction i with
  | zero => simp [emptyTo]
  | succ i ih => rw [emptyTo]; split <;> simp [setOne_length, ih]

theorem SlI_own {w w1 : World} {v : Value} {l : List Int} (h : w.ownsRow 0 58 1 v l.length (ints .u64 l)) (hl : l.length ≤ 1024) (hb : Below w.heap.size w w1) : SlI w1 .u64 v l := (Sl.of_own h (by omega)).below hb

set_option maxHeartbeats 2000000 in
set_option maxRecDepth 100000 in
theorem empty_calls (g : Geo) (w : World) (hg : g.good = true) :
    Calls Try.prog 7 #[g.val] w fun e w' => ∃ v', e = .returned (.agg #[v']) ∧ w'.ownsRow 0 58 1 v' (emptyW g).length (ints .u64 (emptyW g)) ∧ Below w.heap.size w w' := by
  obtain ⟨gb, -, -, -, ga, gf, ge, gd⟩ := Geo.good_bd hg
  have hdt : ∀ W, Calls Try.prog 8 #[g.val] W fun e w' => e = .returned (.tuple #[.int .i64 g.from_, .int .i64 g.all]) ∧ Below W.heap.size W w' := fun W => by
    have := data_calls g W; rw [gd] at this; exact this
  obtain ⟨N, hN⟩ : ∃ N : Nat, g.b = (N : Int) := ⟨g.b.toNat, by omega⟩
  have HL : Kp (∀ i, (emptyTo g i).length = (N + 63) / 64) := ⟨fun i => by rw [emptyTo_len, hN]; simp⟩
  have HS : Kp (∀ i, emptyTo g (i + 1) = if (i : Int) < g.from_ ∨ g.from_ + g.all ≤ (i : Int) then setOne (emptyTo g i) true i else emptyTo g i) := ⟨fun i => rfl⟩
  have HE : Kp (emptyW g = emptyTo g N) := ⟨by unfold emptyW; rw [hN]; simp⟩
  have H0 : Kp (emptyTo g 0 = List.replicate ((N + 63) / 64) 0) := ⟨by unfold emptyTo; rw [hN]; simp⟩
  rw [HE.out]
  generalize emptyTo g = em at *
  have hbd : 1 ≤ g.from_ ∧ 1 ≤ g.all ∧ g.from_ + g.all ≤ 1023 := by omega
  generalize g.from_ = f0 at *
  generalize g.all = a0 at *
  have HDT := Kp.mk hdt
  have hNN : 64 ≤ N ∧ N ≤ 1024 := by omega
  obtain ⟨b, n, c, k⟩ := g
  simp only [Geo.val] at *
  subst hN
  clear hdt gd ge gf ga gb hg
  go_enter Try.func7, Try.ntmps7
  go_wp2_with fail
  refine (HDT.out _).mono ?_
  rintro e w1 ⟨rfl, hb⟩
  have c0 := hb.cell (p := ⟨w.heap.size, 0, none⟩) (by simp; omega)
  have c5 := hb.cell (p := ⟨w.heap.size + 1, 0, none⟩) (by simp)
  have f5 := hb.frozen (p := ⟨w.heap.size + 1, 0, none⟩) (by simp)
  simp at c0 c5 f5
  have HB : Kp (Below w.heap.size w w1) := ⟨(((Below.refl _ _).alloc (Nat.le_refl _) _).alloc (by simp) _).trans (hb.mono (by simp; omega))⟩
  have hsz : w.heap.size + 2 ≤ w1.heap.size := by have := hb.size; simp at this; omega
  clear hb HDT
  go_wp2_with fail
  refine (new_calls N w1 (by omega)).mono ?_
  rintro e w2 ⟨v2, rfl, hown, hb2⟩
  obtain ⟨A2, cap2, hv2, _, _⟩ := (Sl.of_own hown (by omega)).form (by omega)
  subst hv2
  obtain ⟨w3, hw3⟩ : ∃ w3, w3 = w2.alloc (.cells #[.slice A2 ((N + 63) / 64) cap2] 33) := ⟨_, rfl⟩
  obtain ⟨B5, hB5⟩ : ∃ B5, B5 = w2.heap.size := ⟨_, rfl⟩
  obtain ⟨p0, hp0⟩ : ∃ p0, p0 = w.heap.size := ⟨_, rfl⟩
  have hs2 : w1.heap.size ≤ w2.heap.size := hb2.size
  have hB : Blk w3 B5 33 #[.slice A2 ((N + 63) / 64) cap2] := by rw [hw3, hB5]; exact Blk.new _ _ _
  have hb3 : Below w1.heap.size w1 w3 := by rw [hw3]; exact hb2.alloc hs2 _
  have HB3 : Kp (Below w.heap.size w w3) := ⟨HB.out.trans (hb3.mono (by omega))⟩
  have hs3 : w3.heap.size = B5 + 1 := by rw [hw3, hB5]; simp
  have c03 : w3.cell? ⟨p0, 0, none⟩ = some (.int .i64 N) := by rw [hp0]; exact (hb3.cell (by show w.heap.size < w1.heap.size; omega)).trans c0
  have c53 : w3.cell? ⟨p0 + 1, 0, none⟩ = some (.slice none 0 0) := by rw [hp0]; exact (hb3.cell (by show w.heap.size + 1 < w1.heap.size; omega)).trans c5
  have f53 : w3.frozen? ⟨p0 + 1, 0, none⟩ = false := by rw [hp0]; exact (hb3.frozen (by show w.heap.size + 1 < w1.heap.size; omega)).trans f5
  have hown3 : w3.ownsRow w1.heap.size 58 1 (.slice A2 ((N + 63) / 64) cap2) ((N + 63) / 64) (ints .u64 (em 0)) := by rw [hw3, H0.out]; exact hown.alloc _
  have HI : Kp (Blk w3 B5 33 #[.slice A2 ((N + 63) / 64) cap2] ∧ w3.ownsRow 0 58 1 (.slice A2 ((N + 63) / 64) cap2) (em 0).length (ints .u64 (em 0)) ∧ Value.ownBlock (.slice A2 ((N + 63) / 64) cap2) ≠ some B5 ∧ w3.grownBy w3 (some B5) ∧ Value.ownBlock (.slice A2 ((N + 63) / 64) cap2) ≠ some (p0 + 1)) := ⟨hB, by rw [HL.out]; exact own_weak hown3 (Nat.zero_le _), fun hh => by
    rcases hown.2 with ⟨e1, e2⟩ | ⟨g', cap, cur, e1, e2, e3, e4⟩
    · rw [e1] at hh; cases hh
    · have := Blk.lt (t := 58) e3
      rw [e1] at hh; injection hh with hh; have h9 : g' = B5 := hh; omega, grown_of_below (Below.refl _ _) _, fun hh => by
    rcases hown.2 with ⟨e1, e2⟩ | ⟨g', cap, cur, e1, e2, e3, e4⟩
    · rw [e1] at hh; cases hh
    · rw [e1] at hh; injection hh with hh; have h9 : g' = p0 + 1 := hh; omega⟩
  have HC : Kp (w3.cell? ⟨p0, 0, none⟩ = some (.int .i64 N) ∧ w3.cell? ⟨p0 + 1, 0, none⟩ = some (.slice none 0 0) ∧ w3.frozen? ⟨p0 + 1, 0, none⟩ = false) := ⟨c03, c53, f53⟩
  have hp5 : p0 + 2 ≤ B5 := by omega
  have HP : Kp (p0 = w.heap.size) := ⟨hp0⟩
  go_upto_region 3 with fail
  rw [← hw3, ← hB5, ← hp0]
  clear hown hb2 hw3 hB5 hB hb3 c03 c53 f53 hown3 c0 c5 f5 HB hsz hs2 hp0 H0
  go_wp2_with fail
  go_loopw [6] (fun x wr => ∃ (i : Nat) (bv : Value), i ≤ N ∧ x = .int .i64 i ∧ Kp (Blk wr B5 33 #[bv] ∧ wr.ownsRow 0 58 1 bv (em i).length (ints .u64 (em i)) ∧ bv.ownBlock ≠ some B5 ∧ w3.grownBy wr (some B5) ∧ bv.ownBlock ≠ some (p0 + 1)))
    (fun x _ => N - (intOf x).toNat)
  case atStart => exact ⟨0, _, by omega, rfl, HI⟩
  case round =>
    clear HI
    obtain ⟨i, bv, hi, rfl, HI⟩ := hrel
    obtain ⟨A, cap, hbv, _, _⟩ := (Sl.of_own HI.out.2.1 (by rw [HL.out]; omega)).form (by omega)
    subst hbv
    have g0 : wr.cell? ⟨p0, 0, none⟩ = some (.int .i64 N) := HI.out.2.2.2.1.cell HC.out.1 (by simp; omega)
    have g5 : wr.cell? ⟨B5, 0, none⟩ = some (.slice A (em i).length cap) := Blk.cell HI.out.1 0
    have gf : wr.frozen? ⟨B5, 0, none⟩ = false := Blk.frozen HI.out.1 0
    have hwr : B5 < wr.heap.size := Blk.lt HI.out.1
    by_cases hlt : i < N
    · by_cases hin : (i : Int) < f0 ∨ f0 + a0 ≤ (i : Int)
      · have hst : em (i + 1) = setOne (em i) true i := by rw [HS.out, if_pos hin]
        obtain ⟨W0, hW0⟩ : ∃ W0, W0 = wr.alloc (.cells #[.int .i64 i] 3) := ⟨_, rfl⟩
        have hW0b : Below wr.heap.size wr W0 := by rw [hW0]; exact (Below.refl _ _).alloc (Nat.le_refl _) _
        have hW0s : W0.heap.size = wr.heap.size + 1 := by rw [hW0]; simp
        have hlv : SlI W0 .i64 (.slice (some ⟨wr.heap.size, 0, none⟩) 1 1) [(i : Int)] := ⟨rfl, by simp, Or.inr ⟨_, 1, rfl, by simp, fun j u hu => by
          rcases j with _ | j
          · simp [ints] at hu; subst hu; rw [hW0]; simp [add_none]
          · simp [ints] at hu⟩⟩
        have HSET : Kp (Calls Try.prog 17 #[.agg #[.slice A (em i).length cap], .bool true, .slice (some ⟨wr.heap.size, 0, none⟩) 1 1] W0 fun e w' => ∃ A' cp', e = .returned (.agg #[.slice A' (em i).length cp']) ∧
              w'.cell? ⟨B5, 0, none⟩ = some (.slice A (em i).length cap) ∧ w'.frozen? ⟨B5, 0, none⟩ = false ∧
              Kp (Blk (w'.setCell ⟨B5, 0, none⟩ (.slice A' (em i).length cp')) B5 33 #[.slice A' (em i).length cp'] ∧ (w'.setCell ⟨B5, 0, none⟩ (.slice A' (em i).length cp')).ownsRow 0 58 1 (.slice A' (em i).length cp') (em (i + 1)).length (ints .u64 (em (i + 1))) ∧ Value.ownBlock (.slice A' (em i).length cp') ≠ some B5 ∧ w3.grownBy (w'.setCell ⟨B5, 0, none⟩ (.slice A' (em i).length cp')) (some B5) ∧ Value.ownBlock (.slice A' (em i).length cp') ≠ some (p0 + 1))) := by
          obtain ⟨k1, k2, k3, k4, k5⟩ := HI.out
          have hln := HL.out i
          refine ⟨(set_calls _ _ (em i) [(i : Int)] true W0 (SlI_own k2 (by omega) hW0b) hlv (by omega) (by omega) (by intro y hy; simp at hy; omega)).mono fun e w' h => ?_⟩
          obtain ⟨v', h1, h2, h3⟩ := h
          obtain ⟨A', cp', h4, _, _⟩ := (Sl.of_own h2 (by omega)).form (by omega)
          subst h4
          have hbw : Below wr.heap.size wr w' := hW0b.trans (h3.mono (by omega))
          have hown : Value.ownBlock (.slice A' (em i).length cp') ≠ some B5 := by
            rcases h2.2 with ⟨a1, a2⟩ | ⟨gg, cap, cur, a1, a2, a3, a4⟩
            · omega
            · rw [a1]; intro hh; injection hh with hh; have h9 : gg = B5 := hh; omega
          have hown2 : Value.ownBlock (.slice A' (em i).length cp') ≠ some (p0 + 1) := by
            rcases h2.2 with ⟨a1, a2⟩ | ⟨gg, cap, cur, a1, a2, a3, a4⟩
            · omega
            · rw [a1]; intro hh; injection hh with hh; have h9 : gg = p0 + 1 := hh; omega
          have hB : Blk w' B5 33 _ := Blk.below k1 hbw hwr
          refine ⟨A', cp', h1, (hbw.cell hwr).trans g5, (hbw.frozen hwr).trans gf, ⟨Blk.set_ hB 0 _, ?_, hown, grown_setCell (grown_trans k4 (grown_of_below hbw _)) (Or.inl rfl) _, hown2⟩⟩
          have h5 := own_weak (own_far h2 (p := ⟨B5, 0, none⟩) (by show B5 < W0.heap.size; omega) (.slice A' (em i).length cp')) (Nat.zero_le _)
          rw [setOne_one, ← hst] at h5
          rw [show (em (i + 1)).length = (em i).length by rw [HL.out, HL.out]]
          exact h5
        rw [hW0] at HSET
        clear hW0 hW0b hW0s hlv hst HI
        have hwj : Kp (wrap64 ((i : Int) + 1) = ((i + 1 : Nat) : Int)) := ⟨wrap64_in' i (by omega)⟩
        by_cases h1 : (i : Int) < f0
        · have h1b : decide ((i : Int) < f0) = true := by simpa using h1
          clear hin
          go_wp2_with (go_at_call 17; refine HSET.out.mono ?_; rintro e w4 ⟨A', cp', rfl, hcc, hff, HI2⟩)
          exact ⟨⟨i + 1, _, by omega, by go_num, HI2⟩, by simp [intOf]; omega⟩
        · have h1b : decide ((i : Int) < f0) = false := by simpa using h1
          have h2 : f0 + a0 ≤ (i : Int) := by omega
          have h2b : decide (f0 + a0 ≤ (i : Int)) = true := by simpa using h2
          clear hin
          go_wp2_with (go_at_call 17; refine HSET.out.mono ?_; rintro e w4 ⟨A', cp', rfl, hcc, hff, HI2⟩)
          exact ⟨⟨i + 1, _, by omega, by go_num, HI2⟩, by simp [intOf]; omega⟩
      · have h1b : decide ((i : Int) < f0) = false := by simp; omega
        have h2b : decide (f0 + a0 ≤ (i : Int)) = false := by simp; omega
        have HI2 : Kp (Blk wr B5 33 #[.slice A (em i).length cap] ∧ wr.ownsRow 0 58 1 (.slice A (em i).length cap) (em (i + 1)).length (ints .u64 (em (i + 1))) ∧ Value.ownBlock (.slice A (em i).length cap) ≠ some B5 ∧ w3.grownBy wr (some B5) ∧ Value.ownBlock (.slice A (em i).length cap) ≠ some (p0 + 1)) := by
          rw [HS.out, if_neg hin]; exact HI
        clear HI hin
        go_wp2_with fail
        exact ⟨⟨i + 1, _, by omega, by go_num, HI2⟩, by simp [intOf]; omega⟩
    · have hie : i = N := by omega
      subst hie
      have k5 : wr.cell? ⟨p0 + 1, 0, none⟩ = some (.slice none 0 0) := HI.out.2.2.2.1.cell HC.out.2.1 (by simp; omega)
      have k5f : wr.frozen? ⟨p0 + 1, 0, none⟩ = false := (World.frozen?_of_block (w := w3) (HI.out.2.2.2.1.block (p0 + 1) (by omega) (by simp; omega))).trans HC.out.2.2
      have HBW : Kp (Below w.heap.size w wr) := ⟨HB3.out.grown HI.out.2.2.2.1 HB3.out.size (fun k hk => by injection hk with hk; have := HP.out; omega)⟩
      go_wp2_with fail
      refine bodyPost_ret (v := .agg #[.slice A (em i).length cap]) (by simp [results, Try.results7, go_sem, k5, k5f]) rfl ⟨_, rfl, ?_, HBW.out.setCell (by have := HP.out; show w.heap.size ≤ p0 + 1; omega) _⟩
      exact HI.out.2.1.kept (grown_setCell (grown_of_below (Below.refl _ _) (some (p0 + 1))) (Or.inl rfl) _) (Or.inr HI.out.2.2.2.2)
end Go.Proofs.Ytdjnadnmlcpaaaa
