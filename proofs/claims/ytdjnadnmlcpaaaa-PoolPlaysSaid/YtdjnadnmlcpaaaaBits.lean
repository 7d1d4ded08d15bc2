/- Contracts of slices.Clone at []uint64 and of package bits. -/
import Derived.Test.YtdjnadnmlcpaaaaProg
import Derived.Test.YtdjnadnmlcpaaaaBase
namespace Go.Proofs.Ytdjnadnmlcpaaaa
open Go.RowKit

theorem infoU : (Try.prog.info? 58).map (fun i => (i.zero, i.size, i.bytes)) = some (some (.int .u64 0), 1, 8) := by kernel_rfl

set_option maxHeartbeats 1000000 in
theorem clone_calls (v : Value) (l : List Int) (w : World) (hr : SlI w .u64 v l) (hn : 0 < l.length) (hl : l.length * 8 ≤ 140737488355328) :
    Calls Try.prog 38 #[v] w fun e w' => ∃ v', e = .returned v' ∧ w'.ownsRow w.heap.size 58 1 v' l.length (ints .u64 l) ∧ Below w.heap.size w w' := by
  obtain ⟨A, cap, rfl, hcap, hx⟩ := hr.form
  obtain ⟨b, o, rfl, hb, hc⟩ := hx hn
  have hq := fun (W : World) => Lib.run_eql_slice_nil (P := Try.prog) W 31 58 (some ⟨b, o, none⟩) l.length cap 0 0 Try.underlying31
  have HC := Kp.mk hc
  clear hc hx hr
  obtain ⟨i0, hi, hzz⟩ := Option.map_eq_some_iff.1 infoU
  simp only [Prod.mk.injEq] at hzz
  obtain ⟨hz0, hz1, hz2⟩ := hzz
  have HI := Kp.mk hi
  have HZ := Kp.mk (And.intro hz0 (And.intro hz1 hz2))
  clear hi hz0 hz1 hz2
  go_enter Try.func38, Try.ntmps38
  go_wp2_with (at_builtin; refine wpList_append_own _ rfl _ _ 31 rfl w.heap.size 58 i0 (.int .u64 0) 1 8 Try.underlying31 HI.out HZ.out.1 HZ.out.2.1 HZ.out.2.2 rfl (by decide) _ _ _ rfl (World.ownsRow_lit (base := w.heap.size) (e := 58) (size := 1) w #[] 0 (Nat.le_refl _) (by unfold maxLen; omega) rfl) ⟨b, o, none⟩ l.length cap (ints .u64 l) rfl (by rw [ints_length]; omega) ?c1 ?c2 ?c3 ?c4 ?c5 ?_)
  case c1 =>
    intro j u hu
    have hj : j < l.length := by
      have := (List.getElem?_eq_some_iff.1 hu).1
      rwa [ints_length] at this
    rw [ints_get .u64 l j hj] at hu
    injection hu with hu
    subst hu
    rw [add_none, World.cell?_alloc_lt _ _ _ hb]
    exact HC.out j hj
  case c2 =>
    intro u hu
    simp only [ints, List.mem_map] at hu
    obtain ⟨x, _, rfl⟩ := hu
    rfl
  case c3 => unfold maxLen; omega
  case c4 => omega
  case c5 => simp
  · intro v' w1 hown hg _
    have H := Kp.mk (And.intro hown hg)
    clear hown hg
    go_wp2
    go_ret
    exact ⟨_, rfl, by simpa using H.out.1, ((Below.refl _ _).alloc (Nat.le_refl _) _).grown H.out.2 (by simp) (by intro k hk; simp [Value.ownBlock] at hk; omega)⟩

/-- Is there such a bit? -/
def thereB (n : Nat) (i : Int) : Bool := decide (0 ≤ i ∧ i / 64 < n)

theorem there_calls (A : Option Addr) (n cap : Nat) (i : Int) (w : World) (h1 : -9223372036854775808 ≤ i) (h2 : i ≤ 9223372036854775807) :
    Calls Try.prog 37 #[.agg #[.slice A n cap], .int .i64 i] w fun e w' => e = .returned (.bool (thereB n i)) ∧ Below w.heap.size w w' := by
  by_cases h0 : 0 ≤ i
  · have hb0 : decide (0 ≤ i) = true := by simpa using h0
    go_enter Try.func37, Try.ntmps37
    go_wp2
    go_ret
    exact ⟨by simp [thereB, h0], (Below.refl _ _).alloc (Nat.le_refl _) _⟩
  · have hb0 : decide (0 ≤ i) = false := by simpa using h0
    go_enter Try.func37, Try.ntmps37
    go_wp2
    go_ret
    exact ⟨by simp [thereB]; omega, (Below.refl _ _).alloc (Nat.le_refl _) _⟩

theorem wrap64_in' (k : Nat) (h : k < 9223372036854775807) : wrap64 ((k : Int) + 1) = ((k + 1 : Nat) : Int) := by rw [IntWalk.wrap64_in] <;> omega

/-- A word with a bit set or unset. -/
def wordSet (x : Int) (yes : Bool) (k : Int) : Int :=
  let y := bits .andNot .u64 x (IntKind.u64.wrap (2 ^ k.toNat))
  if yes then bits .or .u64 y (IntKind.u64.wrap (2 ^ k.toNat)) else y
def setOne (bs : List Int) (yes : Bool) (i : Int) : List Int :=
  if thereB bs.length i then bs.set (i / 64).toNat (wordSet (bs.getD (i / 64).toNat 0) yes (i % 64)) else bs
def setAll (bs : List Int) (yes : Bool) (l : List Int) : List Int := l.foldl (fun b i => setOne b yes i) bs
theorem setOne_length (bs : List Int) (yes : Bool) (i : Int) : (setOne bs yes i).length = bs.length := by unfold setOne; split <;> simp
theorem setAll_length (bs : List Int) (yes : Bool) (l : List Int) : (setAll bs yes l).length = bs.length := by
  unfold setAll
  induction l generalizing bs with
  | nil => rfl
  | cons x l ih => rw [List.foldl_cons, ih, setOne_length]
theorem setAll_take (bs : List Int) (yes : Bool) (l : List Int) (k : Nat) (h : k < l.length) : setAll bs yes (l.take (k + 1)) = setOne (setAll bs yes (l.take k)) yes (l.getD k 0) := by
  unfold setAll
  rw [List.take_succ_eq_append_getElem h, List.foldl_append]
  simp [List.getD_eq_getElem?_getD, List.getElem?_eq_getElem h]

set_option maxHeartbeats 1000000 in
theorem set_calls (bv lv : Value) (bs l : List Int) (yes : Bool) (w : World) (hb : SlI w .u64 bv bs) (hl : SlI w .i64 lv l) (hn : 0 < bs.length) (hs : bs.length ≤ 1024)
    (hlr : ∀ x ∈ l, -9223372036854775808 ≤ x ∧ x ≤ 9223372036854775807) :
    Calls Try.prog 17 #[.agg #[bv], .bool yes, lv] w fun e w' => ∃ v', e = .returned (.agg #[v']) ∧ w'.ownsRow w.heap.size 58 1 v' bs.length (ints .u64 (setAll bs yes l)) ∧ Below w.heap.size w w' := by
  obtain ⟨A, cap, rfl, hcap, hx⟩ := hb.form
  obtain ⟨b, o, rfl, hbb, hc⟩ := hx hn
  obtain ⟨B, lcap, rfl, hlcap, hlx⟩ := hl.form
  have HB := Kp.mk hb
  have HL := Kp.mk hl
  have HC := Kp.mk hc
  have HLX := Kp.mk hlx
  have HLR := Kp.mk hlr
  clear hc hx hb hl hlx hlr
  go_enter Try.func17, Try.ntmps17
  go_wp2_with fail
  refine (clone_calls _ bs _ ?_ hn (by omega)).mono ?_
  · exact HB.out.below (((Below.refl _ _).alloc (Nat.le_refl _) _).alloc (by simp) _)
  rintro e w1 ⟨v', rfl, hown, hbel⟩
  simp only [World.size_alloc] at hown hbel
  have hsz := hbel.size
  obtain ⟨g, c', rfl, hg1, hg2⟩ := hown.form (by omega)
  have hw1 : w1.cell? ⟨w.heap.size, 0, none⟩ = some (.slice (some ⟨b, o, none⟩) bs.length cap) := by
    rw [hbel.cell (by show w.heap.size < _; omega)]; simp
  have HOWN := Kp.mk hown
  have HBEL := Kp.mk hbel
  clear hown hbel
  go_wp2_with fail
  have hll : l.length ≤ 140737488355328 := HL.out.2.1
  have hsz' : w.heap.size + 1 + 1 ≤ w1.heap.size := by have := hsz; simp only [World.size_alloc] at this; omega
  clear hsz
  go_loopw [16] (fun i wr => ∃ (k : Nat), k ≤ l.length ∧ i = .int .i64 k ∧ Kp (wr.ownsRow (w.heap.size + 1 + 1) 58 1 (.slice (some ⟨g, 0, none⟩) bs.length c') bs.length (ints .u64 (setAll bs yes (l.take k)))) ∧
      Kp (Below w.heap.size w wr) ∧ wr.cell? ⟨w.heap.size, 0, none⟩ = some (.slice (some ⟨b, o, none⟩) bs.length cap) ∧ wr.cell? ⟨w1.heap.size, 0, none⟩ = some (.slice (some ⟨g, 0, none⟩) bs.length c') ∧
      wr.cell? ⟨w.heap.size + 1, 0, none⟩ = some (.slice none 0 0) ∧ wr.frozen? ⟨w.heap.size + 1, 0, none⟩ = false)
    (fun i _ => l.length - (intOf i).toNat)
  case atStart =>
    have hr1 : w1.cell? ⟨w.heap.size + 1, 0, none⟩ = some (.slice none 0 0) := by
      rw [HBEL.out.cell (by show w.heap.size + 1 < _; omega)]; simp
    have hr2 : w1.frozen? ⟨w.heap.size + 1, 0, none⟩ = false := by
      rw [HBEL.out.frozen (by show w.heap.size + 1 < _; omega)]; simp
    exact ⟨0, Nat.zero_le _, rfl, ⟨by simpa [setAll] using HOWN.out.alloc _⟩, ⟨((((Below.refl _ _).alloc (Nat.le_refl _) _).alloc (by simp) _).trans (HBEL.out.mono (by omega))).alloc (by omega) _⟩,
      by rw [World.cell?_alloc_lt _ _ _ (by show w.heap.size < _; omega)]; exact hw1, by simp, by rw [World.cell?_alloc_lt _ _ _ (by show w.heap.size + 1 < _; omega)]; exact hr1, by rw [World.frozen?_alloc_old _ _ _ (by show w.heap.size + 1 ≠ _; omega)]; exact hr2⟩
  case round =>
    obtain ⟨k, hk, rfl, HO, HBW, hcb, hcg, hcr, hfr⟩ := hrel
    by_cases hlt : k < l.length
    · obtain ⟨lb, lo, rfl, hlb, hlc⟩ := HLX.out (by omega)
      have hci : wr.cell? ⟨lb, lo + k, none⟩ = some (.int .i64 (l.getD k 0)) := (HBW.out.cell (by exact hlb)).trans (hlc k hlt)
      clear hlc
      obtain ⟨hx1, hx2⟩ := HLR.out (l.getD k 0) (by rw [List.getD_eq_getElem?_getD, List.getElem?_eq_getElem hlt]; exact List.getElem_mem hlt)
      have HN := Kp.mk (setAll_take bs yes l k hlt)
      obtain ⟨x, hxe⟩ : ∃ x, x = l.getD k 0 := ⟨_, rfl⟩
      rw [← hxe] at hci hx1 hx2
      have HN' : Kp (setAll bs yes (l.take (k + 1)) = setOne (setAll bs yes (l.take k)) yes x) := ⟨by rw [hxe]; exact HN.out⟩
      clear hxe HN
      have hBl := Kp.mk (setAll_length bs yes (l.take k))
      go_wp2_with fail
      refine (there_calls _ _ _ x _ hx1 hx2).mono ?_
      rintro e wr1 ⟨rfl, hb1⟩
      have HO1 := Kp.mk (own_below HO.out hb1)
      have HBW1 := Kp.mk (below_then HBW.out hb1)
      have hcb1 := (hb1.cell (World.block_lt_of_cell? _ _ hcb)).trans hcb
      have hcg1 := (hb1.cell (World.block_lt_of_cell? _ _ hcg)).trans hcg
      have hcr1 := (hb1.cell (World.block_lt_of_cell? _ _ hcr)).trans hcr
      have hfr1 := (hb1.frozen (World.block_lt_of_cell? _ _ hcr)).trans hfr
      clear hb1 hci hcb hcg HO HBW hcr hfr
      cases hth : thereB bs.length x with
      | false =>
        have HTH := Kp.mk hth
        clear hth
        go_wp2
        refine ⟨⟨k + 1, by omega, by go_num, ?_, HBW1, hcb1, hcg1, hcr1, hfr1⟩, by simp [intOf]; omega⟩
        rw [HN'.out]
        unfold setOne
        rw [hBl.out, HTH.out]
        exact HO1
      | true =>
        obtain ⟨hx0, hx64⟩ : 0 ≤ x ∧ x / 64 < bs.length := by simpa [thereB] using hth
        have HTH := Kp.mk hth
        clear hth
        generalize setAll bs yes (l.take k) = C at HO1 HN' hBl
        have hcw : wr1.cell? ⟨g, (x / 64).toNat, none⟩ = some (.int .u64 (C.getD (x / 64).toNat 0)) := by
          rw [HO1.out.cellAt _ (by omega)]
          exact ints_get .u64 C _ (by rw [hBl.out]; omega)
        have hfw : wr1.frozen? ⟨g, (x / 64).toNat, none⟩ = false := HO1.out.frozenAt _
        generalize hy : C.getD (x / 64).toNat 0 = y at hcw
        have HY := Kp.mk hy
        clear hy
        go_wp2_with fail
        go_region
        have hne1 : (⟨g, (x / 64).toNat, none⟩ : Addr) ≠ ⟨w.heap.size, 0, none⟩ := fun e => by injection e with e _; omega
        have hne2 : (⟨g, (x / 64).toNat, none⟩ : Addr) ≠ ⟨w1.heap.size, 0, none⟩ := fun e => by injection e with e _; omega
        have hne3 : (⟨g, (x / 64).toNat, none⟩ : Addr) ≠ ⟨w.heap.size + 1, 0, none⟩ := fun e => by injection e with e _; omega
        have hst := HO1.out.stored (x / 64).toNat (.int .u64 (bits .andNot .u64 y (IntKind.u64.wrap (2 ^ (x % 64).toNat))))
        cases yes with
        | false =>
          have HST := Kp.mk hst
          have HNE := Kp.mk (And.intro hne1 (And.intro hne2 hne3))
          clear hst hne1 hne2 hne3
          go_wp2_with fail
          obtain ⟨hne1, hne2, hne3⟩ := HNE.out
          refine ⟨⟨k + 1, by omega, by go_num, ⟨?_⟩, ⟨(HBW1.out.setCell (p := ⟨g, (x / 64).toNat, none⟩) (by show w.heap.size ≤ g; omega) _).drew⟩, ?_, ?_, ?_, ?_⟩, by simp [intOf]; omega⟩
          · rw [HN'.out]
            unfold setOne
            rw [hBl.out, HTH.out, if_pos rfl, HY.out, ← ints_set]
            exact HST.out.1
          · rw [World.cell?_drew, World.cell?_setCell_other _ _ _ _ hne1]; exact hcb1
          · rw [World.cell?_drew, World.cell?_setCell_other _ _ _ _ hne2]; exact hcg1
          · rw [World.cell?_drew, World.cell?_setCell_other _ _ _ _ hne3]; exact hcr1
          · rw [World.frozen?_drew, World.frozen?_setCell]; exact hfr1
        | true =>
          generalize hy1 : bits .andNot .u64 y (IntKind.u64.wrap (2 ^ (x % 64).toNat)) = y1 at hst
          have HY1 := Kp.mk hy1
          clear hy1
          obtain ⟨wr2, hwr2⟩ : ∃ W, W = (wr1.setCell ⟨g, (x / 64).toNat, none⟩ (.int .u64 y1)).drew := ⟨_, rfl⟩
          have hcw2 : wr2.cell? ⟨g, (x / 64).toNat, none⟩ = some (.int .u64 y1) := by rw [hwr2, World.cell?_drew]; exact World.cell?_setCell_same _ _ _ hcw
          have hfw2 : wr2.frozen? ⟨g, (x / 64).toNat, none⟩ = false := by rw [hwr2, World.frozen?_drew, World.frozen?_setCell]; exact hfw
          have hcb2 : wr2.cell? ⟨w.heap.size, 0, none⟩ = some (.slice (some ⟨b, o, none⟩) bs.length cap) := by rw [hwr2, World.cell?_drew, World.cell?_setCell_other _ _ _ _ hne1]; exact hcb1
          have hcg2 : wr2.cell? ⟨w1.heap.size, 0, none⟩ = some (.slice (some ⟨g, 0, none⟩) bs.length c') := by rw [hwr2, World.cell?_drew, World.cell?_setCell_other _ _ _ _ hne2]; exact hcg1
          have hcr2 : wr2.cell? ⟨w.heap.size + 1, 0, none⟩ = some (.slice none 0 0) := by rw [hwr2, World.cell?_drew, World.cell?_setCell_other _ _ _ _ hne3]; exact hcr1
          have hfr2 : wr2.frozen? ⟨w.heap.size + 1, 0, none⟩ = false := by rw [hwr2, World.frozen?_drew, World.frozen?_setCell]; exact hfr1
          have HO2 : Kp (wr2.ownsRow (w.heap.size + 1 + 1) 58 1 (.slice (some ⟨g, 0, none⟩) bs.length c') bs.length (ints .u64 (C.set (x / 64).toNat y1))) := ⟨by rw [hwr2, ← ints_set]; exact hst.1⟩
          have HBW2 : Kp (Below w.heap.size w wr2) := ⟨by rw [hwr2]; exact (HBW1.out.setCell (p := ⟨g, (x / 64).toNat, none⟩) (by show w.heap.size ≤ g; omega) _).drew⟩
          clear hcb1 hcg1 hcr1 hfr1 hcw hfw hst
          rw [← hwr2]
          have HNE := Kp.mk (And.intro hne1 (And.intro hne2 hne3))
          clear hne1 hne2 hne3 hwr2
          go_wp2_with fail
          go_region
          go_wp2_with fail
          obtain ⟨hne1, hne2, hne3⟩ := HNE.out
          refine ⟨⟨k + 1, by omega, by go_num, ⟨?_⟩, ⟨(HBW2.out.setCell (p := ⟨g, (x / 64).toNat, none⟩) (by show w.heap.size ≤ g; omega) _).drew⟩, ?_, ?_, ?_, ?_⟩, by simp [intOf]; omega⟩
          · rw [HN'.out]
            unfold setOne
            rw [hBl.out, HTH.out, if_pos rfl, HY.out]
            have h2 := HO2.out.stored (x / 64).toNat (.int .u64 (bits .or .u64 y1 (IntKind.u64.wrap (2 ^ (x % 64).toNat))))
            rw [ints_set, List.set_set] at h2
            have hw : wordSet y true (x % 64) = bits .or .u64 y1 (IntKind.u64.wrap (2 ^ (x % 64).toNat)) := by rw [← HY1.out]; rfl
            rw [hw]
            exact h2.1
          · rw [World.cell?_drew, World.cell?_setCell_other _ _ _ _ hne1]; exact hcb2
          · rw [World.cell?_drew, World.cell?_setCell_other _ _ _ _ hne2]; exact hcg2
          · rw [World.cell?_drew, World.cell?_setCell_other _ _ _ _ hne3]; exact hcr2
          · rw [World.frozen?_drew, World.frozen?_setCell]; exact hfr2
    · obtain rfl : k = l.length := by omega
      have HO' : Kp (wr.ownsRow (w.heap.size + 1 + 1) 58 1 (.slice (some ⟨g, 0, none⟩) bs.length c') bs.length (ints .u64 (setAll bs yes l))) := ⟨by have := HO.out; rwa [List.take_length] at this⟩
      clear HO
      have hrs : (wr.setCell ⟨w.heap.size + 1, 0, none⟩ (.slice (some ⟨g, 0, none⟩) bs.length c')).cell? ⟨w.heap.size + 1, 0, none⟩ = some (.slice (some ⟨g, 0, none⟩) bs.length c') := World.cell?_setCell_same _ _ _ hcr
      have HRS := Kp.mk hrs
      clear hrs
      go_wp2
      have hrs := HRS.out
      refine bodyPost_ret (v := .agg #[.slice (some ⟨g, 0, none⟩) bs.length c']) (by simp [results, Try.results17, go_sem, hrs]) rfl ⟨_, rfl, ?_, HBW.out.setCell (by show w.heap.size ≤ w.heap.size + 1; omega) _⟩
      exact own_weak (ownsRow_setCell_below HO'.out (by show w.heap.size + 1 < _; omega) _) (by omega)

/-- A bit of a row. -/
def hasB (bs : List Int) (i : Int) : Bool := thereB bs.length i && (bits .and .u64 (bs.getD (i / 64).toNat 0 / 2 ^ (i % 64).toNat) 1 == 1)

set_option maxHeartbeats 1000000 in
theorem has_calls (bv : Value) (bs : List Int) (i : Int) (w : World) (hb : SlI w .u64 bv bs) (hs : bs.length ≤ 1024) (h1 : -9223372036854775808 ≤ i) (h2 : i ≤ 9223372036854775807) :
    Calls Try.prog 16 #[.agg #[bv], .int .i64 i] w fun e w' => e = .returned (.bool (hasB bs i)) ∧ Below w.heap.size w w' := by
  obtain ⟨A, cap, rfl, hcap, hx⟩ := hb.form
  cases hth : thereB bs.length i with
  | false =>
    have hh : hasB bs i = false := by simp [hasB, hth]
    rw [hh]
    clear hh
    go_enter Try.func16, Try.ntmps16
    go_wp2_with fail
    refine (there_calls _ _ _ i _ h1 h2).mono ?_
    rintro e w1 ⟨rfl, hb1⟩
    rw [hth]
    go_wp2
    go_ret
    exact ⟨rfl, (((Below.refl _ _).alloc (Nat.le_refl _) _).trans (hb1.mono (by simp)))⟩
  | true =>
    obtain ⟨hx0, hx64⟩ : 0 ≤ i ∧ i / 64 < bs.length := by simpa [thereB] using hth
    obtain ⟨b, o, rfl, hbb, hc⟩ := hx (by omega)
    have hcw : w.cell? ⟨b, o + (i / 64).toNat, none⟩ = some (.int .u64 (bs.getD (i / 64).toNat 0)) := hc _ (by omega)
    have hh : hasB bs i = (bits .and .u64 (bs.getD (i / 64).toNat 0 / 2 ^ (i % 64).toNat) 1 == 1) := by simp [hasB, hth]
    rw [hh]
    clear hh
    generalize bs.getD (i / 64).toNat 0 = y at hcw ⊢
    clear hc hx
    go_enter Try.func16, Try.ntmps16
    go_wp2_with fail
    refine (there_calls _ _ _ i _ h1 h2).mono ?_
    rintro e w1 ⟨rfl, hb1⟩
    rw [hth]
    have hcw1 : w1.cell? ⟨b, o + (i / 64).toNat, none⟩ = some (.int .u64 y) := by rw [hb1.cell (by show b < _; simp only [World.size_alloc]; omega), World.cell?_alloc_lt _ _ _ hbb]; exact hcw
    have hbx : w1.cell? ⟨w.heap.size, 0, none⟩ = some (.slice (some ⟨b, o, none⟩) bs.length cap) := by rw [hb1.cell (by show w.heap.size < _; simp only [World.size_alloc]; omega)]; simp
    have HB1 := Kp.mk hb1
    clear hb1
    go_wp2
    go_ret
    exact ⟨rfl, (((Below.refl _ _).alloc (Nat.le_refl _) _).trans (HB1.out.mono (by simp)))⟩

/-- The first bit from i on, below e, that is so. -/
def nextGo (bs : List Int) (yes : Bool) : Nat → Int → Option Int
  | 0, _ => none
  | f + 1, i => if thereB bs.length i then (if hasB bs i == yes then some i else nextGo bs yes f (i + 1)) else none
def nextB (bs : List Int) (yes : Bool) (i e : Int) : Option Int := nextGo bs yes (e - i).toNat i

theorem mx_zero (x : Int) (h : 0 ≤ x) : (if x < 0 then (0 : Int) else x) = x := by rw [if_neg (by omega)]

set_option maxHeartbeats 1000000 in
theorem next_calls (bv : Value) (bs : List Int) (yes : Bool) (i e : Int) (w : World) (hb : SlI w .u64 bv bs) (hs : bs.length ≤ 1024) (h1 : 0 ≤ i) (h2 : i ≤ 1000000) (h3 : -9223372036854775808 ≤ e) (h4 : e ≤ 9223372036854775807) :
    Calls Try.prog 40 #[.agg #[bv], .bool yes, .int .i64 i, .int .i64 e] w fun r w' => r = .returned (.tuple #[.int .i64 ((nextB bs yes i e).getD 0), .bool (nextB bs yes i e).isSome]) ∧ Below w.heap.size w w' := by
  obtain ⟨r, hr⟩ : ∃ r, nextB bs yes i e = r := ⟨_, rfl⟩
  rw [hr]
  have HR := Kp.mk hr
  clear hr
  have HB := Kp.mk hb
  clear hb
  go_enter Try.func40, Try.ntmps40
  go_wp2_with fail
  go_loopw [10] (fun x wr => ∃ j : Int, x = .int .i64 j ∧ 0 ≤ j ∧ j ≤ 2000000 ∧ Kp (j ≤ i ∨ j / 64 ≤ bs.length) ∧ Kp (nextGo bs yes (e - j).toNat j = r) ∧ Kp (Below w.heap.size w wr) ∧ wr.cell? ⟨w.heap.size, 0, none⟩ = some bv)
    (fun x _ => (e - intOf x).toNat)
  case atStart => exact ⟨i, rfl, h1, by omega, ⟨.inl (by omega)⟩, HR, ⟨(Below.refl _ _).alloc (Nat.le_refl _) _⟩, by simp⟩
  case round =>
    obtain ⟨j, rfl, hj0, hj1, HJ, HG, HBW, hcb⟩ := hrel
    by_cases hlt : j < e
    · have hltb : decide (j < e) = true := by simpa using hlt
      have hbv := Kp.mk (HB.out.below HBW.out)
      obtain ⟨A, cap, hbe, _, _⟩ := HB.out.form
      subst hbe
      go_wp2_with fail
      refine (there_calls _ _ _ j _ (by omega) (by omega)).mono ?_
      rintro e1 w1 ⟨rfl, hb1⟩
      have hcb1 := (hb1.cell (World.block_lt_of_cell? _ _ hcb)).trans hcb
      have HBW1 := Kp.mk (below_then HBW.out hb1)
      have hbv1 := Kp.mk (hbv.out.below hb1)
      clear hcb hb1 hbv HBW
      obtain ⟨f, hf⟩ : ∃ f, (e - j).toNat = f + 1 := ⟨(e - j).toNat - 1, by omega⟩
      have hf' : f = (e - (j + 1)).toNat := by omega
      have HG1 := Kp.mk (show nextGo bs yes (f + 1) j = r from by rw [← hf]; exact HG.out)
      have HF := Kp.mk hf'
      clear hf hf' HG
      cases hth : thereB bs.length j with
      | false =>
        have HTH := Kp.mk hth
        clear hth
        go_wp2_with fail
        go_ret2
        have hn : r = none := by rw [← HG1.out, nextGo, HTH.out]; rfl
        subst hn
        exact ⟨rfl, HBW1.out⟩
      | true =>
        obtain ⟨hx0, hx64⟩ : 0 ≤ j ∧ j / 64 < bs.length := by simpa [thereB] using hth
        have HTH := Kp.mk hth
        clear hth
        go_wp2_with fail
        refine (has_calls _ bs j _ hbv1.out hs (by omega) (by omega)).mono ?_
        rintro e2 w2 ⟨rfl, hb2⟩
        have hcb2 := (hb2.cell (World.block_lt_of_cell? _ _ hcb1)).trans hcb1
        have HBW2 := Kp.mk (below_then HBW1.out hb2)
        clear hcb1 hb2 HBW1 hbv1
        cases hhy : (hasB bs j == yes) with
        | true =>
          have HH := Kp.mk hhy
          have hhe : hasB bs j = yes := by simpa using hhy
          rw [hhe]
          clear hhy hhe
          go_wp2_with fail
          go_ret2
          have hn : r = some j := by rw [← HG1.out, nextGo, HTH.out, HH.out]; rfl
          subst hn
          exact ⟨rfl, HBW2.out⟩
        | false =>
          have HH := Kp.mk hhy
          have hbb : (hasB bs j == yes) = false := hhy
          clear hhy
          go_wp2_with fail
          refine ⟨⟨j + 1, by go_num, by omega, by omega, ⟨.inr (by omega)⟩, ⟨?_⟩, HBW2, hcb2⟩, by simp [intOf]; omega⟩
          rw [← HF.out, ← HG1.out, nextGo, HTH.out, HH.out]
          rfl
    · have hltb : decide (j < e) = false := by simpa using hlt
      have hz : (e - j).toNat = 0 := by omega
      have HZ := Kp.mk hz
      clear hz
      go_wp2_with fail
      go_ret2
      have hn : r = none := by rw [← HG.out, HZ.out]; rfl
      subst hn
      exact ⟨rfl, HBW.out⟩

/-- How many of the first k bits are set. -/
def countTo (bs : List Int) : Nat → Nat
  | 0 => 0
  | k + 1 => countTo bs k + (if hasB bs k then 1 else 0)
def countB (bs : List Int) : Nat := countTo bs (64 * bs.length)
theorem countTo_le (bs : List Int) (k : Nat) : countTo bs k ≤ k := by
  induction k with
  | zero => exact Nat.le_refl _
  | succ k ih => rw [countTo]; split <;> omega

set_option maxHeartbeats 1000000 in
theorem count_calls (bv : Value) (bs : List Int) (w : World) (hb : SlI w .u64 bv bs) (hs : bs.length ≤ 1024) :
    Calls Try.prog 21 #[.agg #[bv]] w fun r w' => r = .returned (.int .i64 (countB bs)) ∧ Below w.heap.size w w' := by
  obtain ⟨A, cap, rfl, _, _⟩ := hb.form
  have HB := Kp.mk hb
  clear hb
  go_enter Try.func21, Try.ntmps21
  go_wp2_with fail
  go_loopw [3, 9] (fun c x wr => ∃ k : Nat, k ≤ 64 * bs.length ∧ x = .int .i64 k ∧ c = .int .i64 (countTo bs k) ∧ Kp (Below w.heap.size w wr) ∧ wr.cell? ⟨w.heap.size, 0, none⟩ = some (.slice A bs.length cap))
    (fun _ x _ => 64 * bs.length - (intOf x).toNat)
  case atStart => exact ⟨0, Nat.zero_le _, rfl, rfl, ⟨(Below.refl _ _).alloc (Nat.le_refl _) _⟩, by simp⟩
  case round =>
    obtain ⟨k, hk, rfl, rfl, HBW, hcb⟩ := hrel
    have hle := countTo_le bs k
    by_cases hlt : k < 64 * bs.length
    · have hbv := Kp.mk (HB.out.below HBW.out)
      have hC : Kp (countTo bs (k + 1) = countTo bs k + (if hasB bs k then 1 else 0)) := ⟨rfl⟩
      have hltz : (k : Int) < 64 * (bs.length : Int) := by omega
      go_wp2_with fail
      refine (has_calls _ bs k _ hbv.out hs (by omega) (by omega)).mono ?_
      rintro e2 w2 ⟨rfl, hb2⟩
      have hcb2 := (hb2.cell (World.block_lt_of_cell? _ _ hcb)).trans hcb
      have HBW2 := Kp.mk (below_then HBW.out hb2)
      clear hcb hb2 HBW hbv
      cases hh : hasB bs k with
      | true =>
        have HH := Kp.mk hh
        clear hh
        go_wp2_with fail
        exact ⟨⟨k + 1, by omega, by go_num, by rw [hC.out, HH.out]; go_num, HBW2, hcb2⟩, by simp [intOf]; omega⟩
      | false =>
        have HH := Kp.mk hh
        clear hh
        go_wp2_with fail
        exact ⟨⟨k + 1, by omega, by go_num, by rw [hC.out, HH.out]; go_num, HBW2, hcb2⟩, by simp [intOf]; omega⟩
    · have hltz : ¬ (k : Int) < 64 * (bs.length : Int) := by omega
      have hke : k = 64 * bs.length := by omega
      have HK := Kp.mk hke
      clear hke
      go_wp2_with fail
      go_ret
      exact ⟨by unfold countB; rw [← HK.out]; rfl, HBW.out⟩

set_option maxHeartbeats 1000000 in
set_option maxRecDepth 100000 in
theorem new_calls (n : Nat) (w : World) (h : n ≤ 2000) :
    Calls Try.prog 25 #[.int .i64 n] w fun r w' => ∃ v', r = .returned (.agg #[v']) ∧ w'.ownsRow w.heap.size 58 1 v' ((n + 63) / 64) (ints .u64 (List.replicate ((n + 63) / 64) 0)) ∧ Below w.heap.size w w' := by
  obtain ⟨m, hm⟩ : ∃ m : Nat, m = (n + 63) / 64 := ⟨_, rfl⟩
  rw [← hm]
  have hme : ((n : Int) + 64 - 1) / 64 = (m : Int) := by omega
  have hmk : ∀ W : World, (Instr.makeSlice 31 (.int .i64 (((n : Int) + 64 - 1) / 64)) (.int .i64 (((n : Int) + 64 - 1) / 64))).run Try.prog W = .ok (.slice (some ⟨W.heap.size, 0, none⟩) m m) (W.alloc (.cells (madeCells #[.int .u64 0] m) 58)) := by
    intro W
    rw [hme]
    exact run_make_row' 31 58 (.int .u64 0) 8 Try.underlying31 infoU rfl .i64 .i64 m (by omega) (by omega) W
  have HM := Kp.mk hm
  clear hm hme
  go_enter Try.func25, Try.ntmps25
  go_wp2_with fail
  refine bodyPost_ret (v := .agg #[.slice (some ⟨w.heap.size + 1, 0, none⟩) m m]) (by simp [results, Try.results25, go_sem]) rfl ⟨_, rfl, ?_, ((Below.refl _ _).alloc (Nat.le_refl _) _).alloc (by simp) _⟩
  have := own_made (w.alloc (.cells #[.slice (some ⟨w.heap.size + 1, 0, none⟩) m m] 33)) w.heap.size 58 .u64 m (by simp) (by have := HM.out; omega)
  simpa using this
end Go.Proofs.Ytdjnadnmlcpaaaa
