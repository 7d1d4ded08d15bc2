import Derived.Test.YtdjnadnmlcpaaaaGeom
import Derived.Test.YtdjnadnmlcpaaaaRunsM
import Derived.Test.YtdjnadnmlcpaaaaBitPure
/-! Package pool: the pool's block; New, Bits, rows, Free, Group. -/
namespace Go.Proofs.Ytdjnadnmlcpaaaa
open Go.RowKit

def PoolAt (w : World) (q : Nat) (g : Geo) (bv : Value) : Prop := Blk w q 65 #[.int .i64 g.b, .int .i64 g.n, .int .i64 g.c, .int .i64 g.k, bv]

structure PoolOk (w : World) (q : Nat) (g : Geo) (bv : Value) (bs : List Int) : Prop where
  at_ : PoolAt w q g bv
  row : SlI w .u64 bv bs
  pos : 0 < bs.length
  len : bs.length ≤ 1024
  good : g.good = true
  ow : w.ownsRow 0 58 1 bv bs.length (ints .u64 bs)

theorem PoolOk.below {w w' : World} {q : Nat} {g : Geo} {bv : Value} {bs : List Int} (h : PoolOk w q g bv bs) (hb : Below w.heap.size w w') : PoolOk w' q g bv bs :=
  ⟨Blk.below h.at_ hb h.at_.lt, h.row.below hb, h.pos, h.len, h.good, own_below h.ow hb⟩

theorem PoolOk.cells {w : World} {q : Nat} {g : Geo} {bv : Value} {bs : List Int} (h : PoolOk w q g bv bs) :
    w.cell? ⟨q, 0, none⟩ = some (.int .i64 g.b) ∧ w.cell? ⟨q, 1, none⟩ = some (.int .i64 g.n) ∧ w.cell? ⟨q, 2, none⟩ = some (.int .i64 g.c) ∧ w.cell? ⟨q, 3, none⟩ = some (.int .i64 g.k) ∧ w.cell? ⟨q, 4, none⟩ = some bv := by
  have := h.at_
  exact ⟨Blk.cell this 0, Blk.cell this 1, Blk.cell this 2, Blk.cell this 3, Blk.cell this 4⟩

theorem Geo.good_bd {g : Geo} (h : g.good = true) : (64 ≤ g.b ∧ g.b ≤ 1024) ∧ (4 ≤ g.n ∧ g.n ≤ 64) ∧ (1 ≤ g.c ∧ g.c ≤ 8) ∧ (16 ≤ g.k ∧ g.k ≤ 110) ∧ 1 ≤ g.all ∧ 1 ≤ g.from_ ∧ g.from_ + g.all = g.b - 1 ∧ g.data = (g.from_, g.all) := by
  have h2 := h
  unfold Geo.good at h2
  rw [Bool.and_eq_true, decide_eq_true_iff] at h2
  obtain ⟨h4, h5⟩ := h2
  obtain ⟨a, b, c, d⟩ := Geo.in4_iff.1 h4
  refine ⟨a, b, c, d, h5, ?_, by unfold Geo.all; omega, by unfold Geo.data; rw [if_pos h]⟩
  unfold Geo.from_
  have : 0 ≤ g.c * g.k := Int.mul_nonneg (by omega) (by omega)
  omega

theorem own_far {w : World} {base : Nat} {e : TypeId} {sz n : Nat} {v : Value} {xs : List Value} (h : w.ownsRow base e sz v n xs) {p : Addr} (hp : p.block < base) (u : Value) : (w.setCell p u).ownsRow base e sz v n xs := by
  refine ⟨h.1, ?_⟩
  rcases h.2 with h2 | ⟨g, cap, cur, h1, h2, h3, h4⟩
  · exact Or.inl h2
  · exact Or.inr ⟨g, cap, cur, h1, h2, (Below.heap_setCell w p u g (by omega)).trans h3, h4⟩

set_option maxHeartbeats 1000000 in
theorem bits_calls (q : Nat) (g : Geo) (bv : Value) (bs : List Int) (w : World) (h : PoolOk w q g bv bs) :
    Calls Try.prog 20 #[.pointer (some ⟨q, 0, none⟩)] w fun e w' => ∃ v', e = .returned (.agg #[v']) ∧ w'.ownsRow w.heap.size 58 1 v' bs.length (ints .u64 bs) ∧ Below w.heap.size w w' := by
  obtain ⟨c0, c1, c2, c3, c4⟩ := h.cells
  have hq := h.at_.lt
  have H : Kp _ := ⟨h⟩
  clear h c0 c1 c2 c3
  go_enter Try.func20, Try.ntmps20
  go_wp2_with fail
  refine (set_calls bv _ bs [] true _ (H.out.row.below ((Below.refl _ _).alloc (Nat.le_refl _) _)) (Sl.nil _ _) H.out.pos H.out.len (by simp)).mono ?_
  rintro e w1 ⟨v', rfl, hown, hb⟩
  obtain ⟨A, cp, rfl, _, _⟩ := (Sl.of_own hown (by have := H.out.len; omega)).form (by omega)
  have HB : Kp (Below w.heap.size w w1) := ⟨((Below.refl _ _).alloc (Nat.le_refl _) _).trans (hb.mono (by simp))⟩
  have HO : Kp _ := ⟨hown⟩
  have hc := hb.cell (p := ⟨w.heap.size, 0, none⟩) (by simp)
  have hf := hb.frozen (p := ⟨w.heap.size, 0, none⟩) (by simp)
  simp at hc hf
  clear hb hown
  go_wp2_with fail
  refine bodyPost_ret (v := .agg #[.slice A bs.length cp]) (by simp [results, Try.results20, go_sem, hc]) rfl ⟨_, rfl, own_weak (own_far HO.out (by simp) _) (by simp), HB.out.setCell (Nat.le_refl _) _⟩

/-- The pool's maximal runs of clear bits from at on, below e. -/
def rowsGo (bs : List Int) (e : Int) : Nat → Int → List (Int × Int)
  | 0, _ => []
  | f + 1, at_ => match nextB bs false at_ e with
    | none => []
    | some a => (a, (nextB bs true a e).getD e - a) :: rowsGo bs e f ((nextB bs true a e).getD e)
def rowsL (bs : List Int) (g : Geo) : List (Int × Int) := rowsGo bs (g.from_ + g.all) (g.all.toNat + 1) g.from_

theorem nextGo_spec (bs : List Int) (yes : Bool) : ∀ (f : Nat) (i : Int), (∀ k, i ≤ k → k < i + f → thereB bs.length k = true) →
    match nextGo bs yes f i with
    | some j => i ≤ j ∧ j < i + f ∧ hasB bs j = yes ∧ ∀ k, i ≤ k → k < j → hasB bs k = !yes
    | none => ∀ k, i ≤ k → k < i + f → hasB bs k = !yes
  | 0, i, _ => by simp only [nextGo]; intro k h1 h2; omega
  | f + 1, i, h => by
    rw [nextGo, if_pos (h i (Int.le_refl _) (by omega))]
    by_cases hb : hasB bs i = yes
    · rw [if_pos (by simp [hb])]
      exact ⟨Int.le_refl _, by omega, hb, fun k h1 h2 => by omega⟩
    · rw [if_neg (by simp [hb])]
      have hb2 : hasB bs i = !yes := by cases hx : hasB bs i <;> cases yes <;> simp_all
      have ih := nextGo_spec bs yes f (i + 1) (fun k h1 h2 => h k (by omega) (by omega))
      split at ih
      · obtain ⟨h1, h2, h3, h4⟩ := ih
        refine ⟨by omega, by omega, h3, fun k h5 h6 => ?_⟩
        by_cases hk : k = i
        · rw [hk, hb2]
        · exact h4 k (by omega) h6
      · intro k h5 h6
        by_cases hk : k = i
        · rw [hk, hb2]
        · exact ih k (by omega) (by omega)

theorem nextB_some {bs : List Int} {yes : Bool} {i e j : Int} (ht : ∀ k, i ≤ k → k < e → thereB bs.length k = true) (h : nextB bs yes i e = some j) : i ≤ j ∧ j < e ∧ hasB bs j = yes ∧ ∀ k, i ≤ k → k < j → hasB bs k = !yes := by
  unfold nextB at h
  have := nextGo_spec bs yes (e - i).toNat i (fun k h1 h2 => ht k h1 (by omega))
  rw [h] at this
  exact ⟨this.1, by omega, this.2.2⟩

theorem nextB_none {bs : List Int} {yes : Bool} {i e : Int} (ht : ∀ k, i ≤ k → k < e → thereB bs.length k = true) (h : nextB bs yes i e = none) : ∀ k, i ≤ k → k < e → hasB bs k = !yes := by
  unfold nextB at h
  have := nextGo_spec bs yes (e - i).toNat i (fun k h1 h2 => ht k h1 (by omega))
  rw [h] at this
  exact fun k h1 h2 => this k h1 (by omega)

theorem nextB_after {bs : List Int} {a e : Int} (ht : ∀ k, a ≤ k → k < e → thereB bs.length k = true) (hc : hasB bs a = false) (hae : a < e) : a < (nextB bs true a e).getD e ∧ (nextB bs true a e).getD e ≤ e := by
  cases h : nextB bs true a e with
  | none => simp; omega
  | some j =>
    obtain ⟨h1, h2, h3, _⟩ := nextB_some ht h
    simp only [Option.getD_some]
    refine ⟨?_, by omega⟩
    rcases Int.lt_or_le a j with h4 | h4
    · exact h4
    · have : j = a := by omega
      subst this; rw [hc] at h3; cases h3

set_option maxHeartbeats 2000000 in
set_option maxRecDepth 100000 in
theorem rows_calls (q : Nat) (g : Geo) (bv : Value) (bs : List Int) (w : World) (h : PoolOk w q g bv bs) (hw : g.b ≤ bs.length * 64) :
    Calls Try.prog 27 #[.pointer (some ⟨q, 0, none⟩)] w fun e w' => ∃ v', e = .returned v' ∧ w'.ownsRow w.heap.size 52 2 v' (rowsL bs g).length (prs (rowsL bs g)) ∧ Below w.heap.size w w' := by
  obtain ⟨c0, c1, c2, c3, c4⟩ := h.cells
  have hq := h.at_.lt
  obtain ⟨gb, -, -, -, ga, gf, ge, gd⟩ := Geo.good_bd h.good
  obtain ⟨R, hR⟩ : ∃ R, R = rowsL bs g := ⟨_, rfl⟩
  rw [← hR]
  have HR : Kp (R = rowsL bs g) := ⟨hR⟩
  have HD : Kp _ := ⟨data_calls g w⟩
  rw [gd] at HD
  have ht : ∀ k, g.from_ ≤ k → k < g.from_ + g.all → thereB bs.length k = true := fun k h1 h2 => by unfold thereB; simp; omega
  have HT : Kp _ := ⟨ht⟩
  have H : Kp _ := ⟨h⟩
  obtain ⟨f0, hf0⟩ : ∃ x, x = g.from_ := ⟨_, rfl⟩
  obtain ⟨a0, ha0⟩ : ∃ x, x = g.all := ⟨_, rfl⟩
  have HG : Kp (f0 = g.from_ ∧ a0 = g.all) := ⟨hf0, ha0⟩
  rw [← hf0, ← ha0] at HD HT
  have hbd : 1 ≤ f0 ∧ 1 ≤ a0 ∧ f0 + a0 ≤ 1023 := by omega
  clear h hR ht gd hf0 ha0 ge gf ga gb hw
  go_enter Try.func27, Try.ntmps27
  go_wp2_with fail
  refine HD.out.mono ?_
  rintro e w1 ⟨rfl, hb⟩
  have HB : Kp _ := ⟨hb⟩
  clear hb c0 c1 c2 c3 c4
  go_wp2_with fail
  go_loopw [6, 7] (fun u x wr => ∃ (acc : List (Int × Int)) (at_ : Int) (F : Nat), x = .int .i64 at_ ∧ f0 ≤ at_ ∧ at_ ≤ f0 + a0 ∧ (acc.length : Int) ≤ at_ - f0 ∧ (f0 + a0 - at_).toNat + 1 ≤ F ∧
      Kp (R = acc ++ rowsGo bs (f0 + a0) F at_) ∧ Kp (wr.ownsRow w.heap.size 52 2 u acc.length (prs acc)) ∧ Kp (Below w.heap.size w wr))
    (fun _ x _ => (f0 + a0 - intOf x).toNat)
  case atStart => exact ⟨[], f0, a0.toNat + 1, rfl, by omega, by omega, by simp, by omega, ⟨by rw [HR.out, List.nil_append]; unfold rowsL; rw [← HG.out.1, ← HG.out.2]⟩, ⟨World.ownsRow_nil _ _ _ _⟩, HB⟩
  case round =>
    clear HB
    obtain ⟨acc, at_, F, rfl, o1, o2, o3, o4, HE, HO, HB⟩ := hrel
    obtain ⟨F, rfl⟩ : ∃ F', F = F' + 1 := ⟨F - 1, by omega⟩
    have hP : PoolOk wr q g bv bs := H.out.below HB.out
    obtain ⟨c0, c1, c2, c3, c4⟩ := hP.cells
    have HN1 : Kp _ := ⟨next_calls bv bs false at_ (f0 + a0) wr hP.row H.out.len (by omega) (by omega) (by omega) (by omega)⟩
    have hsz := HB.out.size
    clear hP c0 c1 c2 c3
    have HE' : Kp (R = acc ++ match nextB bs false at_ (f0 + a0) with
      | none => []
      | some a => (a, (nextB bs true a (f0 + a0)).getD (f0 + a0) - a) :: rowsGo bs (f0 + a0) F ((nextB bs true a (f0 + a0)).getD (f0 + a0))) := ⟨by rw [HE.out, rowsGo]⟩
    clear HE
    go_wp2_with fail
    refine HN1.out.mono ?_
    rintro e w2 ⟨rfl, hb2⟩
    have HB2 : Kp (Below w.heap.size w w2) := ⟨HB.out.trans (hb2.mono hsz)⟩
    have HO2 : Kp _ := ⟨own_below HO.out hb2⟩
    clear hb2 HO HB HN1 c4
    have HT1 : Kp (∀ k, at_ ≤ k → k < f0 + a0 → thereB bs.length k = true) := ⟨fun k h1 h2 => HT.out k (by omega) h2⟩
    cases hn : nextB bs false at_ (f0 + a0) with
    | none =>
      have HE2 : Kp (R = acc) := ⟨by rw [HE'.out, hn, List.append_nil]⟩
      clear HE' hn
      simp only [Option.getD_none, Option.isSome_none]
      go_wp2_with fail
      go_ret
      exact ⟨_, rfl, by rw [HE2.out]; exact HO2.out, HB2.out⟩
    | some a =>
      obtain ⟨p1, p2, p3, -⟩ := nextB_some HT1.out hn
      obtain ⟨z, hz⟩ : ∃ z, z = (nextB bs true a (f0 + a0)).getD (f0 + a0) := ⟨_, rfl⟩
      have HT2 : Kp (∀ k, a ≤ k → k < f0 + a0 → thereB bs.length k = true) := ⟨fun k h1 h2 => HT.out k (by omega) h2⟩
      obtain ⟨p4, p5⟩ := nextB_after HT2.out p3 p2
      rw [← hz] at p4 p5
      have HE2 : Kp (R = (acc ++ [(a, z - a)]) ++ rowsGo bs (f0 + a0) F z) := ⟨by rw [HE'.out, hn, hz]; simp⟩
      have hP : PoolOk w2 q g bv bs := H.out.below HB2.out
      obtain ⟨c0, c1, c2, c3, c4⟩ := hP.cells
      have HN1 : Kp _ := ⟨next_calls bv bs true a (f0 + a0) w2 hP.row H.out.len (by omega) (by omega) (by omega) (by omega)⟩
      have HZ : Kp _ := ⟨hz⟩
      clear HE' hn hP c0 c1 c2 c3 p3 hz
      simp only [Option.getD_some, Option.isSome_some]
      go_wp2_with fail
      refine HN1.out.mono ?_
      rintro e w3 ⟨rfl, hb3⟩
      have HB3 : Kp (Below w.heap.size w w3) := ⟨HB2.out.trans (hb3.mono HB2.out.size)⟩
      have HO3 : Kp _ := ⟨own_below HO2.out hb3⟩
      have hsz3 := HB3.out.size
      clear hb3 HO2 HB2 HN1 c4
      cases hn2 : nextB bs true a (f0 + a0) with
      | none =>
        have hzz : z = f0 + a0 := by rw [HZ.out, hn2]; rfl
        subst hzz
        simp only [Option.getD_none, Option.isSome_none]
        clear hn2 HZ
        go_wp2_with (at_builtin; refine app1 (w0 := w) w.heap.size rfl (.tmp 48) (.tmp 54) 38 52 _ 2 16 rfl Try.underlying38 infoR rfl (by decide) _ acc.length (prs acc) [.int .i64 a, .int .i64 (f0 + a0 - a)] rfl _ rfl ?a0 rfl (prs_one' (a, f0 + a0 - a)) ?aO ?aB ?a1 ?a2 ?a3 ?_)
        case a0 => simp
        case aO => exact HO3.out
        case aB => exact HB3.out
        case a1 => first | omega | (simp; omega)
        case a2 => omega
        case a3 => omega
        rintro v1 w4 HO4 HB4 HG4
        clear HG4
        go_wp2_with fail
        exact ⟨⟨acc ++ [(a, f0 + a0 - a)], f0 + a0, F, rfl, by omega, by omega, by simp; omega, by omega, HE2, ⟨by rw [prs_append, List.length_append]; exact HO4.out⟩, HB4⟩, by simp [intOf]; omega⟩
      | some j =>
        have hzz : z = j := by rw [HZ.out, hn2]; rfl
        subst hzz
        simp only [Option.getD_some, Option.isSome_some]
        clear hn2 HZ
        go_wp2_with (at_builtin; refine app1 (w0 := w) w.heap.size rfl (.tmp 48) (.tmp 54) 38 52 _ 2 16 rfl Try.underlying38 infoR rfl (by decide) _ acc.length (prs acc) [.int .i64 a, .int .i64 (z - a)] rfl _ rfl ?d0 rfl (prs_one' (a, z - a)) ?dO ?dB ?d1 ?d2 ?d3 ?_)
        case d0 => simp
        case dO => exact HO3.out
        case dB => exact HB3.out
        case d1 => first | omega | (simp; omega)
        case d2 => omega
        case d3 => omega
        rintro v1 w4 HO4 HB4 HG4
        clear HG4
        go_wp2_with fail
        exact ⟨⟨acc ++ [(a, z - a)], z, F, rfl, by omega, by omega, by simp; omega, by omega, HE2, ⟨by rw [prs_append, List.length_append]; exact HO4.out⟩, HB4⟩, by simp [intOf]; omega⟩
end Go.Proofs.Ytdjnadnmlcpaaaa
