import Derived.Test.YtdjnadnmlcpaaaaPool2
/-! Package pool: Group, mark. -/
namespace Go.Proofs.Ytdjnadnmlcpaaaa
open Go.RowKit

set_option maxHeartbeats 1000000 in
theorem group_calls (q : Nat) (g : Geo) (bv : Value) (bs : List Int) (x : Int) (w : World) (h : PoolOk w q g bv bs) :
    Calls Try.prog 26 #[.pointer (some ⟨q, 0, none⟩), .int .i64 x] w fun e w' => ∃ a b : Int, e = .returned (.tuple #[.int .i64 a, .int .i64 b]) ∧ (0 ≤ a ∧ a ≤ 4096) ∧ (0 ≤ b ∧ b ≤ 4096) ∧ Below w.heap.size w w' := by
  obtain ⟨c0, c1, c2, c3, c4⟩ := h.cells
  have hq := h.at_.lt
  obtain ⟨gb, gn, gc, gk, ga, gf, ge, gd⟩ := Geo.good_bd h.good
  have H : Kp _ := ⟨h⟩
  have HD : Kp _ := ⟨data_calls g w⟩
  rw [gd] at HD
  generalize hf0 : g.from_ = f0 at HD gf ge
  generalize ha0 : g.all = a0 at HD ga ge
  clear h gd hf0 ha0 gn gk
  clear H
  obtain ⟨b, n, c, k⟩ := g
  simp only [Geo.val] at *
  by_cases h1 : x < 0
  · have h1b : decide (x < 0) = true := by simpa using h1
    go_enter Try.func26, Try.ntmps26
    go_wp2_with fail
    go_ret2
    exact ⟨0, 0, rfl, by omega, by omega, Below.refl _ _⟩
  · have h1b : decide (x < 0) = false := by simpa using h1
    by_cases h2 : c ≤ x
    · have h2b : decide (c ≤ x) = true := by simpa using h2
      go_enter Try.func26, Try.ntmps26
      go_wp2_with fail
      go_ret2
      exact ⟨0, 0, rfl, by omega, by omega, Below.refl _ _⟩
    · have h2b : decide (c ≤ x) = false := by simpa using h2
      have hdiv : (0 ≤ a0 / c ∧ a0 / c ≤ 1023) ∧ (0 ≤ x * (a0 / c) ∧ x * (a0 / c) ≤ a0) := by
        have e1 : 0 ≤ a0 / c := Int.ediv_nonneg (by omega) (by omega)
        have e2 : a0 / c ≤ a0 := Int.ediv_le_self _ (by omega)
        have e3 : c * (a0 / c) ≤ a0 := Int.mul_ediv_self_le (by omega)
        have e4 : x * (a0 / c) ≤ c * (a0 / c) := Int.mul_le_mul_of_nonneg_right (by omega) e1
        have e5 : 0 ≤ x * (a0 / c) := Int.mul_nonneg (by omega) e1
        omega
      have hdt : Int.tdiv a0 c = a0 / c := Int.tdiv_eq_ediv_of_nonneg (by omega)
      have hc0 : c ≠ 0 := by omega
      obtain ⟨d, hd⟩ : ∃ d, d = a0 / c := ⟨_, rfl⟩
      rw [← hd] at hdiv hdt
      obtain ⟨m, hm⟩ : ∃ m, m = x * d := ⟨_, rfl⟩
      rw [← hm] at hdiv
      have hm2 : x * d = m := hm.symm
      have hd2 : a0 / c = d := hd.symm
      clear hm hd
      go_enter Try.func26, Try.ntmps26
      go_wp2_with fail
      refine HD.out.mono ?_
      rintro e w1 ⟨rfl, hb⟩
      have c2' : w1.cell? ⟨q, 2, none⟩ = some (.int .i64 c) := (hb.cell (by exact hq)).trans c2
      have HB : Kp _ := ⟨hb⟩
      clear hb c0 c1 c2 c3 c4 HD
      by_cases h3 : x = c - 1
      · have h3b : (x == c - 1) = true := by simpa using h3
        clear h3
        go_wp2_with fail
        go_ret2
        exact ⟨_, _, rfl, by omega, by omega, HB.out⟩
      · have h3b : (x == c - 1) = false := by simpa using h3
        clear h3
        go_wp2_with fail
        go_ret2
        exact ⟨_, _, rfl, by omega, by omega, HB.out⟩

/-- The bits of the runs set or unset, one by one. -/
def markOne (bs : List Int) (yes : Bool) (a : Int) : Nat → List Int
  | 0 => bs
  | n + 1 => setOne (markOne bs yes a n) yes (a + n)
def markL (bs : List Int) (yes : Bool) (l : List (Int × Int)) : List Int := l.foldl (fun b r => markOne b yes r.1 r.2.toNat) bs
theorem markOne_length (bs : List Int) (yes : Bool) (a : Int) (n : Nat) : (markOne bs yes a n).length = bs.length := by
  induction n with
  | zero => rfl
  | succ n ih => rw [markOne, setOne_length, ih]
theorem markL_length (bs : List Int) (yes : Bool) (l : List (Int × Int)) : (markL bs yes l).length = bs.length := by
  unfold markL
  induction l generalizing bs with
  | nil => rfl
  | cons x l ih => rw [List.foldl_cons, ih, markOne_length]
theorem markL_snoc (bs : List Int) (yes : Bool) (l : List (Int × Int)) (k : Nat) (h : k < l.length) : markL bs yes (l.take (k + 1)) = markOne (markL bs yes (l.take k)) yes (l.getD k (0, 0)).1 (l.getD k (0, 0)).2.toNat := by
  rw [take_snoc l (0, 0) k h]; unfold markL; rw [List.foldl_append]; rfl

/-- A pool behind calls that kept to it: its block and what lies behind the start. -/
structure PoolTo (w w' : World) (q : Nat) (g : Geo) (bv' : Value) (bs' : List Int) : Prop where
  ok : PoolOk w' q g bv' bs'
  grown : w.grownBy w' (some q)
  own : bv'.ownBlock ≠ some q

theorem setOne_one (bs : List Int) (yes : Bool) (i : Int) : setAll bs yes [i] = setOne bs yes i := rfl

set_option maxHeartbeats 1000000 in
set_option maxRecDepth 100000 in
theorem mark_calls (q : Nat) (g : Geo) (bv v : Value) (bs : List Int) (l : List (Int × Int)) (yes : Bool) (w : World) (h : PoolOk w q g bv bs) (hne : bv.ownBlock ≠ some q) (hv : SlP w v l) (hvq : l ≠ [] → v.ownBlock ≠ some q) (hl : l.length ≤ 1000000)
    (hb : ∀ x ∈ l, 1 ≤ x.2 → 0 ≤ x.1 ∧ x.1 + x.2 ≤ 1073741824) :
    Calls Try.prog 34 #[.pointer (some ⟨q, 0, none⟩), .bool yes, v] w fun e w' => e = .returned (.tuple #[]) ∧ ∃ bv', PoolTo w w' q g bv' (markL bs yes l) := by
  obtain ⟨A, cap, hv', hcap, hx⟩ := hv.form
  subst hv'
  have HX := Kp.mk hx
  have HV := Kp.mk hv
  have HBD := Kp.mk hb
  have HVQ := Kp.mk hvq
  have H0 : Kp (PoolTo w w q g bv bs) := ⟨h, grown_of_below (Below.refl _ _) _, hne⟩
  clear hx hv hb hvq h hne
  go_enter Try.func34, Try.ntmps34
  go_wp2_with fail
  go_loopw [11] (fun i wr => ∃ (k : Nat) (bv : Value), k ≤ l.length ∧ i = .int .i64 k ∧ Kp (PoolTo w wr q g bv (markL bs yes (l.take k))))
    (fun i _ => l.length - (intOf i).toNat)
  case atStart => exact ⟨0, bv, Nat.zero_le _, rfl, H0⟩
  case round =>
    clear H0
    obtain ⟨k, bv1, hk, rfl, HP⟩ := hrel
    by_cases hlt : k < l.length
    · obtain ⟨b, o, rfl, hbb, hc⟩ := HX.out (by omega)
      have hbq : b ≠ q := fun e => HVQ.out (by intro h; rw [h] at hlt; simp at hlt) (by simp [Value.ownBlock, e])
      have hc0 : wr.cell? ⟨b, o + k * 2, none⟩ = some (.int .i64 (l.getD k (0, 0)).1) := HP.out.grown.cell (hc k hlt).1 (by simp [hbq])
      have hc1 : wr.cell? ⟨b, o + k * 2 + 1, none⟩ = some (.int .i64 (l.getD k (0, 0)).2) := HP.out.grown.cell (hc k hlt).2 (by simp [hbq])
      have hbd := HBD.out _ (getD_mem l (0, 0) k hlt)
      have HM : Kp _ := ⟨markL_snoc bs yes l k hlt⟩
      generalize l.getD k (0, 0) = x at *
      obtain ⟨p, n⟩ := x
      dsimp only at hc0 hc1 hbd HM
      clear hc
      obtain ⟨base, hbase⟩ : ∃ z, z = markL bs yes (l.take k) := ⟨_, rfl⟩
      rw [← hbase] at HP HM
      have HL : Kp (base.length = bs.length) := ⟨by rw [hbase, markL_length]⟩
      obtain ⟨wo, hwo⟩ : ∃ wo, wo = wr.alloc (.cells #[.int .i64 p, .int .i64 n] 52) := ⟨_, rfl⟩
      obtain ⟨R, hR⟩ : ∃ R, R = wr.heap.size := ⟨_, rfl⟩
      have hq := HP.out.ok.at_.lt
      have hRq : R ≠ q := by omega
      have HP0 : Kp (PoolTo w wo q g bv1 (markOne base yes p 0) ∧ Blk wo R 52 #[.int .i64 p, .int .i64 n]) := ⟨by
        rw [hwo, hR]
        exact ⟨⟨HP.out.ok.below ((Below.refl _ _).alloc (Nat.le_refl _) _), grown_alloc HP.out.grown _, HP.out.own⟩, Blk.new _ _ _⟩⟩
      go_wp2_with fail
      rw [← hR, ← hwo]
      clear hwo hR hc0 hc1 HP hbase hq
      go_loopw [17] (fun i wr => ∃ (j : Nat) (bv : Value), (j : Int) ≤ max n 0 ∧ i = .int .i64 j ∧ Kp (PoolTo w wr q g bv (markOne base yes p j) ∧ Blk wr R 52 #[.int .i64 p, .int .i64 n]))
        (fun i _ => (n - intOf i).toNat)
      case atStart => exact ⟨0, bv1, by omega, rfl, HP0⟩
      case round =>
        clear HP0
        obtain ⟨j, bv2, hj, rfl, HP⟩ := hrel
        by_cases hlt2 : (j : Int) < n
        · have hbd2 := hbd (by omega)
          have hc4 := HP.out.1.ok.cells.2.2.2.2
          have hr0 : wr.cell? ⟨R, 0, none⟩ = some (.int .i64 p) := Blk.cell HP.out.2 0
          have hr1 : wr.cell? ⟨R, 1, none⟩ = some (.int .i64 n) := Blk.cell HP.out.2 1
          have hf4 : wr.frozen? ⟨q, 4, none⟩ = false := Blk.frozen HP.out.1.ok.at_ 4
          have hRl : R < wr.heap.size := Blk.lt HP.out.2
          have hql : q < wr.heap.size := HP.out.1.ok.at_.lt
          obtain ⟨A2, cap2, hb2, _, _⟩ := HP.out.1.ok.row.form
          subst hb2
          have hwj : Kp (wrap64 ((j : Int) + 1) = ((j + 1 : Nat) : Int)) := ⟨wrap64_in' j (by omega)⟩
          obtain ⟨x, hx⟩ : ∃ x, x = p + (j : Int) := ⟨_, rfl⟩
          have hw1 : IntKind.i64.wrap (p + (j : Int)) = x := by rw [hx, IntKind.wrap_i64] <;> omega
          have hbl : (markOne base yes p j).length = bs.length := by rw [markOne_length, HL.out]
          obtain ⟨W0, hW0⟩ : ∃ W0, W0 = (wr.alloc (.cells #[.int .i64 x] 3)).drew := ⟨_, rfl⟩
          have hW0b : Below wr.heap.size wr W0 := by rw [hW0]; exact below_drewN ((Below.refl _ _).alloc (Nat.le_refl _) _) 1
          have hW0s : W0.heap.size = wr.heap.size + 1 := by rw [hW0]; simp [World.drew]
          have hlv : SlI W0 .i64 (.slice (some ⟨wr.heap.size, 0, none⟩) 1 1) [x] := ⟨rfl, by simp, Or.inr ⟨_, 1, rfl, by simp, fun i u hu => by
            rcases i with _ | i
            · simp [ints] at hu; subst hu; rw [hW0]; simp [World.drew, add_none]; exact Blk.cell (Blk.new wr 3 #[.int .i64 x]) 0
            · simp [ints] at hu⟩⟩
          have HS : Kp (Calls Try.prog 17 #[.agg #[.slice A2 (markOne base yes p j).length cap2], .bool yes, .slice (some ⟨wr.heap.size, 0, none⟩) 1 1] W0 fun e w' => ∃ A' cp', e = .returned (.agg #[.slice A' bs.length cp']) ∧
              w'.cell? ⟨q, 4, none⟩ = some (.slice A2 (markOne base yes p j).length cap2) ∧ w'.frozen? ⟨q, 4, none⟩ = false ∧
              Kp (PoolTo w (w'.setCell ⟨q, 4, none⟩ (.slice A' bs.length cp')) q g (.slice A' bs.length cp') (markOne base yes p (j + 1)) ∧ Blk (w'.setCell ⟨q, 4, none⟩ (.slice A' bs.length cp')) R 52 #[.int .i64 p, .int .i64 n])) := by
            obtain ⟨HP1, HP2⟩ := HP.out
            refine ⟨(set_calls _ _ (markOne base yes p j) [x] yes W0 (HP1.ok.row.below hW0b) hlv HP1.ok.pos HP1.ok.len (by intro y hy; simp at hy; omega)).mono fun e w' h => ?_⟩
            obtain ⟨v', h1, h2, h3⟩ := h
            rw [hbl] at h2
            obtain ⟨A', cp', h4, _, _⟩ := (Sl.of_own h2 (by have := HP1.ok.len; omega)).form (by omega)
            subst h4
            have hbw : Below wr.heap.size wr w' := hW0b.trans (h3.mono (by omega))
            have hown : Value.ownBlock (.slice A' bs.length cp') ≠ some q := by
              rcases h2.2 with ⟨a1, a2⟩ | ⟨gg, cap, cur, a1, a2, a3, a4⟩
              · have := HP1.ok.pos; omega
              · injection a1 with a1
                subst a1
                simp [Value.ownBlock]; omega
            have hB : Blk w' q 65 _ := Blk.below HP1.ok.at_ hbw hql
            refine ⟨A', cp', h1, (hbw.cell hql).trans hc4, (hbw.frozen hql).trans hf4, ⟨⟨⟨Blk.set_ hB 4 _, ?_, ?_, ?_, HP1.ok.good, ?_⟩, grown_setCell (grown_trans HP1.grown (grown_of_below hbw _)) (Or.inl rfl) _, hown⟩, Blk.far (Blk.below HP.out.2 hbw hRl) (by exact hRq) _⟩⟩
            · have hs : SlI w' .u64 (.slice A' bs.length cp') (markOne base yes p (j + 1)) := by
                have := Sl.of_own h2 (by have := HP1.ok.len; omega)
                rw [setOne_one, hx] at this
                unfold SlI
                rw [markOne_length, HL.out]
                exact this
              exact hs.grown (grown_setCell (grown_of_below (Below.refl _ _) (some q)) (Or.inl rfl) _) (Or.inr hown)
            · rw [markOne_length, HL.out, ← hbl]; exact HP1.ok.pos
            · rw [markOne_length, HL.out, ← hbl]; exact HP1.ok.len
            · have h5 := own_weak (own_far h2 (p := ⟨q, 4, none⟩) (by show q < W0.heap.size; omega) (.slice A' bs.length cp')) (Nat.zero_le _)
              rw [setOne_one, hx] at h5
              rw [markOne_length, HL.out]
              exact h5
          rw [hW0] at HS
          clear hW0b hW0s hlv HP hW0 hx hbd2 hbd hbl
          go_wp2_with fail
          go_region_with (go_at_call 17; refine HS.out.mono ?_; rintro e w2 ⟨A', cp', rfl, hcc, hff, HP3⟩)
          all_goals go_wp2_with fail
          all_goals rw [hwj.out]
          all_goals exact ⟨⟨j + 1, _, by omega, rfl, HP3⟩, by simp only [intOf]; omega⟩
        · have hm : j = n.toNat := by omega
          have HP2 : Kp (PoolTo w wr q g bv2 (markL bs yes (l.take (k + 1)))) := ⟨by rw [HM.out, ← hm]; exact HP.out.1⟩
          clear HP hm HM
          go_wp2_with fail
          exact ⟨⟨k + 1, bv2, by omega, by go_num, HP2⟩, by simp [intOf]; omega⟩
    · have hke : l.take k = l := List.take_of_length_le (by omega)
      rw [hke] at HP
      obtain rfl : k = l.length := by omega
      clear hke
      go_wp2_with fail
      go_end0
      exact ⟨rfl, bv1, HP.out⟩
end Go.Proofs.Ytdjnadnmlcpaaaa
