import Derived.Test.YtdjnadnmlcpaaaaStableW
import Derived.Test.YtdjnadnmlcpaaaaSortKit
/-! Take's two closures. -/
namespace Go.Proofs.Ytdjnadnmlcpaaaa
open Go.Shelf Go.RowKit Go.Lib Go.Sort

def nearB (f o : Int) (x : Int × Int) : Bool := decide (f ≤ x.1) && decide (x.1 < f + o)
def cmpT (n f o : Int) (x y : Int × Int) : Int :=
  if (n ≤ x.2 ∧ n ≤ y.2) ∧ nearB f o x ≠ nearB f o y then (if nearB f o x then -1 else 1) else Lib.compareInt (min y.2 n) (min x.2 n)

/-- What Take's closures want of a world. -/
structure Caught (W : World) (bn bc bf bo : Nat) (n f o : Int) : Prop where
  n_ : W.cell? ⟨bn, 0, none⟩ = some (.int .i64 n)
  c_ : W.cell? ⟨bc, 0, none⟩ = some (.func (.func 28) #[] #[.pointer (some ⟨bf, 0, none⟩), .pointer (some ⟨bo, 0, none⟩)])
  f_ : W.cell? ⟨bf, 0, none⟩ = some (.int .i64 f)
  o_ : W.cell? ⟨bo, 0, none⟩ = some (.int .i64 o)
  s : bn < W.heap.size ∧ bc < W.heap.size ∧ bf < W.heap.size ∧ bo < W.heap.size
  bd : (0 ≤ f ∧ f ≤ 4096) ∧ (0 ≤ o ∧ o ≤ 4096)

theorem Caught.grow {W : World} {bn bc bf bo : Nat} {n f o : Int} (h : Caught W bn bc bf bo n f o) (q : Nat) (os : Array Obj) : Caught (grow (W.drewN q) os) bn bc bf bo n f o :=
  ⟨cell_grown h.s.1 h.n_ q os, cell_grown h.s.2.1 h.c_ q os, cell_grown h.s.2.2.1 h.f_ q os, cell_grown h.s.2.2.2 h.o_ q os, by rw [Go.Sort.size_grow]; have := h.s; exact ⟨Nat.lt_of_lt_of_le this.1 (Nat.le_add_right _ _), Nat.lt_of_lt_of_le this.2.1 (Nat.le_add_right _ _), Nat.lt_of_lt_of_le this.2.2.1 (Nat.le_add_right _ _), Nat.lt_of_lt_of_le this.2.2.2 (Nat.le_add_right _ _)⟩, h.bd⟩

set_option maxHeartbeats 1000000 in
theorem near_calls (x : Int × Int) (bn bc bf bo : Nat) (n f o : Int) (W : World) (h : Caught W bn bc bf bo n f o) :
    Calls Try.prog 28 #[.agg #[.int .i64 x.1, .int .i64 x.2], .pointer (some ⟨bf, 0, none⟩), .pointer (some ⟨bo, 0, none⟩)] W fun e w' => e = .returned (.bool (nearB f o x)) ∧ ∃ q os', w' = grow (W.drewN q) os' := by
  have hf := h.f_
  have ho := h.o_
  obtain ⟨_, _, s1, s2⟩ := h.s
  obtain ⟨⟨b1, b2⟩, b3, b4⟩ := h.bd
  obtain ⟨a, l⟩ := x
  unfold nearB
  clear h
  simp only
  by_cases h1 : f ≤ a
  · have h1b : decide (f ≤ a) = true := by simpa using h1
    rw [h1b, Bool.true_and]
    go_enter Try.func28, Try.ntmps28
    go_wp2_with fail
    go_ret
    exact ⟨rfl, 0, _, by rw [alloc_eq_grow]; rfl⟩
  · have h1b : decide (f ≤ a) = false := by simpa using h1
    rw [h1b, Bool.false_and]
    go_enter Try.func28, Try.ntmps28
    go_wp2_with fail
    go_ret
    exact ⟨rfl, 0, _, by rw [alloc_eq_grow]; rfl⟩

set_option maxHeartbeats 2000000 in
theorem cmpT_calls (x y : Int × Int) (bn bc bf bo : Nat) (n f o : Int) (W : World) (h : Caught W bn bc bf bo n f o) :
    Calls Try.prog 30 #[.agg #[.int .i64 x.1, .int .i64 x.2], .agg #[.int .i64 y.1, .int .i64 y.2], .pointer (some ⟨bn, 0, none⟩), .pointer (some ⟨bc, 0, none⟩)] W fun e w' => e = .returned (.int .i64 (cmpT n f o x y)) ∧ ∃ q os', w' = grow (W.drewN q) os' := by
  have HN : Kp (∀ (z : Int × Int) q os, Calls Try.prog 28 #[.agg #[.int .i64 z.1, .int .i64 z.2], .pointer (some ⟨bf, 0, none⟩), .pointer (some ⟨bo, 0, none⟩)] (grow (W.drewN q) os) fun e w' => e = .returned (.bool (nearB f o z)) ∧ ∃ q' os', w' = grow ((grow (W.drewN q) os).drewN q') os') := ⟨fun z q os => near_calls z bn bc bf bo n f o _ (h.grow q os)⟩
  have hn := h.n_
  have hc := h.c_
  obtain ⟨s0, s3, s1, s2⟩ := h.s
  have hcmp := fun (p r : Int) W' => Try.cmp_Compare_int p r W'
  have HCMP : Kp _ := ⟨hcmp⟩
  clear hcmp h
  have mixed := Try.sortR.mixed
  obtain ⟨xa, xl⟩ := x
  obtain ⟨ya, yl⟩ := y
  simp only
  have KC : Kp (cmpT n f o (xa, xl) (ya, yl) = if (n ≤ xl ∧ n ≤ yl) ∧ nearB f o (xa, xl) ≠ nearB f o (ya, yl) then (if nearB f o (xa, xl) then -1 else 1) else Lib.compareInt (min yl n) (min xl n)) := ⟨rfl⟩
  generalize cmpT n f o (xa, xl) (ya, yl) = res at KC ⊢
  go_enter Try.func30, Try.ntmps30
  go_wp2_with fail
  obtain ⟨W1, hW1⟩ : ∃ W1, W1 = (W.alloc (.cells #[.int .i64 xa, .int .i64 xl] 52)).alloc (.cells #[.int .i64 ya, .int .i64 yl] 52) := ⟨_, rfl⟩
  obtain ⟨p, hp⟩ : ∃ p, p = W.heap.size := ⟨_, rfl⟩
  rw [← hW1, ← hp]
  obtain ⟨os1, hos⟩ : ∃ os1, W1 = grow W os1 := ⟨_, by rw [hW1, alloc_eq_grow, alloc_eq_grow, grow_grow]⟩
  have hsz : W1.heap.size = p + 2 := by rw [hW1, hp]; simp
  have x0 : W1.cell? ⟨p, 0, none⟩ = some (.int .i64 xa) := by rw [hW1, hp]; simp
  have x1 : W1.cell? ⟨p, 1, none⟩ = some (.int .i64 xl) := by rw [hW1, hp]; simp
  have y0 : W1.cell? ⟨p + 1, 0, none⟩ = some (.int .i64 ya) := by rw [hW1, hp]; simp
  have y1 : W1.cell? ⟨p + 1, 1, none⟩ = some (.int .i64 yl) := by rw [hW1, hp]; simp
  have n1 : W1.cell? ⟨bn, 0, none⟩ = some (.int .i64 n) := by rw [hos]; exact cell_grown s0 hn 0 os1
  have c1 : W1.cell? ⟨bc, 0, none⟩ = some (.func (.func 28) #[] #[.pointer (some ⟨bf, 0, none⟩), .pointer (some ⟨bo, 0, none⟩)]) := by rw [hos]; exact cell_grown s3 hc 0 os1
  have hN1 : ∀ (z : Int × Int) q os, Calls Try.prog 28 #[.agg #[.int .i64 z.1, .int .i64 z.2], .pointer (some ⟨bf, 0, none⟩), .pointer (some ⟨bo, 0, none⟩)] (grow (W1.drewN q) os) fun e w' => e = .returned (.bool (nearB f o z)) ∧ ∃ q' os', w' = grow ((grow (W1.drewN q) os).drewN q') os' := fun z q os => by
    have := HN.out z q (os1 ++ os)
    rw [show grow (W.drewN q) (os1 ++ os) = grow (W1.drewN q) os by rw [hos]; show _ = grow (grow (W.drewN q) os1) os; rw [grow_grow]] at this
    exact this
  have hnx := hN1 (xa, xl)
  have hny := hN1 (ya, yl)
  have FIN : Kp (∀ q os, ∃ q' os', grow (W1.drewN q) os = grow (W.drewN q') os') := ⟨fun q os => ⟨q, os1 ++ os, by rw [hos]; show grow (grow (W.drewN q) os1) os = _; rw [grow_grow]⟩⟩
  generalize nearB f o (xa, xl) = nx at KC hnx
  generalize nearB f o (ya, yl) = ny at KC hny
  simp only at hnx hny
  clear hW1 hos HN hN1 hn hc s0 s3 s1 s2 hp
  have gx0 : ∀ n os, (grow (W1.drewN n) os).cell? ⟨p, 0, none⟩ = some (.int .i64 xa) := cell_grown (by show p < _; omega) x0
  have gx1 : ∀ n os, (grow (W1.drewN n) os).cell? ⟨p, 1, none⟩ = some (.int .i64 xl) := cell_grown (by show p < _; omega) x1
  have gy0 : ∀ n os, (grow (W1.drewN n) os).cell? ⟨p + 1, 0, none⟩ = some (.int .i64 ya) := cell_grown (by show p + 1 < _; omega) y0
  have gy1 : ∀ n os, (grow (W1.drewN n) os).cell? ⟨p + 1, 1, none⟩ = some (.int .i64 yl) := cell_grown (by show p + 1 < _; omega) y1
  have gn : ∀ q os, (grow (W1.drewN q) os).cell? ⟨bn, 0, none⟩ = some (.int .i64 n) := cell_grown (World.block_lt_of_cell? _ _ n1) n1
  have gc : ∀ n os, (grow (W1.drewN n) os).cell? ⟨bc, 0, none⟩ = some (.func (.func 28) #[] #[.pointer (some ⟨bf, 0, none⟩), .pointer (some ⟨bo, 0, none⟩)]) := cell_grown (World.block_lt_of_cell? _ _ c1) c1
  have KG : Kp ((∀ n os, (grow (W1.drewN n) os).cell? ⟨p, 0, none⟩ = some (.int .i64 xa)) ∧ (∀ n os, (grow (W1.drewN n) os).cell? ⟨p, 1, none⟩ = some (.int .i64 xl)) ∧ (∀ n os, (grow (W1.drewN n) os).cell? ⟨p + 1, 1, none⟩ = some (.int .i64 yl)) ∧ (∀ q os, (grow (W1.drewN q) os).cell? ⟨bn, 0, none⟩ = some (.int .i64 n)) ∧
     (∀ n os, (grow (W1.drewN n) os).cell? ⟨bc, 0, none⟩ = some (.func (.func 28) #[] #[.pointer (some ⟨bf, 0, none⟩), .pointer (some ⟨bo, 0, none⟩)]))) := ⟨gx0, gx1, gy1, gn, gc⟩
  have KX : Kp _ := ⟨hnx⟩
  clear x0 x1 y0 y1 n1 c1 hsz
  by_cases hA : n ≤ xl
  · have hAb : decide (n ≤ xl) = true := by simpa using hA
    by_cases hB : n ≤ yl
    · have hBb : decide (n ≤ yl) = true := by simpa using hB
      by_cases hE : nx = ny
      · have KE : Kp (¬ ((n ≤ xl ∧ n ≤ yl) ∧ nx ≠ ny)) := ⟨fun h => h.2 hE⟩
        subst hE
        go_quiet_grown (first | (go_at_call 28; first | with_reducible refine Calls.grown_of (hnx _ _) | with_reducible refine Calls.grown_of (hny _ _)))
        obtain ⟨gx0', gx1', gy1', gn', gc'⟩ := KG.out
        replace gx0' := gx0' nq osq
        replace gx1' := gx1' nq osq
        replace gy1' := gy1' nq osq
        replace gn' := gn' nq osq
        replace gc' := gc' nq osq
        have F2 : Kp _ := ⟨FIN.out nq osq⟩
        have F3 : Kp _ := ⟨fun q os => FIN.out (nq + q) (osq ++ os)⟩
        have K28 : Kp _ := ⟨KX.out nq osq⟩
        have K3 : Kp (∀ q os, grow ((grow (W1.drewN nq) osq).drewN q) os = grow (W1.drewN (nq + q)) (osq ++ os)) := ⟨fun q os => by show grow (grow ((W1.drewN nq).drewN q) osq) os = _; rw [grow_grow, World.drewN_drewN]⟩
        generalize grow (W1.drewN nq) osq = W2 at *
        clear gx0 gx1 gy0 gy1 gn gc hnx hny KG KX
        go_wp2_with fail
        refine (HCMP.out (min yl n) (min xl n) W2).mono ?_
        rintro e w3 ⟨rfl, rfl⟩
        go_wp2_with fail
        go_ret
        rw [KC.out, if_neg KE.out]
        exact ⟨rfl, F2.out⟩
      · have KE : Kp ((n ≤ xl ∧ n ≤ yl) ∧ nx ≠ ny) := ⟨⟨hA, hB⟩, hE⟩
        have hEb : (nx == ny) = false := by simpa using hE
        have hEc : (!(nx == ny)) = true := by rw [hEb]; rfl
        clear hE
        go_quiet_grown (first | (go_at_call 28; first | with_reducible refine Calls.grown_of (hnx _ _) | with_reducible refine Calls.grown_of (hny _ _)))
        obtain ⟨gx0', gx1', gy1', gn', gc'⟩ := KG.out
        replace gx0' := gx0' nq osq
        replace gx1' := gx1' nq osq
        replace gy1' := gy1' nq osq
        replace gn' := gn' nq osq
        replace gc' := gc' nq osq
        have F2 : Kp _ := ⟨FIN.out nq osq⟩
        have F3 : Kp _ := ⟨fun q os => FIN.out (nq + q) (osq ++ os)⟩
        have K28 : Kp _ := ⟨KX.out nq osq⟩
        have K3 : Kp (∀ q os, grow ((grow (W1.drewN nq) osq).drewN q) os = grow (W1.drewN (nq + q)) (osq ++ os)) := ⟨fun q os => by show grow (grow ((W1.drewN nq).drewN q) osq) os = _; rw [grow_grow, World.drewN_drewN]⟩
        generalize grow (W1.drewN nq) osq = W2 at *
        clear gx0 gx1 gy0 gy1 gn gc hnx hny KG KX
        go_wp2_with fail
        refine K28.out.mono ?_
        rintro e w3 ⟨rfl, q', os', rfl⟩
        cases nx with
        | true =>
          have KF : Kp (res = -1) := ⟨by rw [KC.out, if_pos KE.out, if_pos rfl]⟩
          clear KC KE
          go_wp2_with fail
          go_ret
          rw [KF.out, K3.out]
          exact ⟨rfl, F3.out q' os'⟩
        | false =>
          have KF : Kp (res = 1) := ⟨by rw [KC.out, if_pos KE.out, if_neg (by decide)]⟩
          clear KC KE
          go_wp2_with fail
          go_ret
          rw [KF.out, K3.out]
          exact ⟨rfl, F3.out q' os'⟩
    · have hBb : decide (n ≤ yl) = false := by simpa using hB
      have KE : Kp (¬ ((n ≤ xl ∧ n ≤ yl) ∧ nx ≠ ny)) := ⟨fun h => hB h.1.2⟩
      go_quiet_grown (first | (go_at_call 28; first | with_reducible refine Calls.grown_of (hnx _ _) | with_reducible refine Calls.grown_of (hny _ _)))
      obtain ⟨gx0', gx1', gy1', gn', gc'⟩ := KG.out
      replace gx0' := gx0' nq osq
      replace gx1' := gx1' nq osq
      replace gy1' := gy1' nq osq
      replace gn' := gn' nq osq
      replace gc' := gc' nq osq
      have F2 : Kp _ := ⟨FIN.out nq osq⟩
      have F3 : Kp _ := ⟨fun q os => FIN.out (nq + q) (osq ++ os)⟩
      have K28 : Kp _ := ⟨KX.out nq osq⟩
      have K3 : Kp (∀ q os, grow ((grow (W1.drewN nq) osq).drewN q) os = grow (W1.drewN (nq + q)) (osq ++ os)) := ⟨fun q os => by show grow (grow ((W1.drewN nq).drewN q) osq) os = _; rw [grow_grow, World.drewN_drewN]⟩
      generalize grow (W1.drewN nq) osq = W2 at *
      clear gx0 gx1 gy0 gy1 gn gc hnx hny KG KX
      go_wp2_with fail
      refine (HCMP.out (min yl n) (min xl n) W2).mono ?_
      rintro e w3 ⟨rfl, rfl⟩
      go_wp2_with fail
      go_ret
      rw [KC.out, if_neg KE.out]
      exact ⟨rfl, F2.out⟩
  · have hAb : decide (n ≤ xl) = false := by simpa using hA
    have KE : Kp (¬ ((n ≤ xl ∧ n ≤ yl) ∧ nx ≠ ny)) := ⟨fun h => hA h.1.1⟩
    go_quiet_grown (first | (go_at_call 28; first | with_reducible refine Calls.grown_of (hnx _ _) | with_reducible refine Calls.grown_of (hny _ _)))
    obtain ⟨gx0', gx1', gy1', gn', gc'⟩ := KG.out
    replace gx0' := gx0' nq osq
    replace gx1' := gx1' nq osq
    replace gy1' := gy1' nq osq
    replace gn' := gn' nq osq
    replace gc' := gc' nq osq
    have F2 : Kp _ := ⟨FIN.out nq osq⟩
    have F3 : Kp _ := ⟨fun q os => FIN.out (nq + q) (osq ++ os)⟩
    have K28 : Kp _ := ⟨KX.out nq osq⟩
    have K3 : Kp (∀ q os, grow ((grow (W1.drewN nq) osq).drewN q) os = grow (W1.drewN (nq + q)) (osq ++ os)) := ⟨fun q os => by show grow (grow ((W1.drewN nq).drewN q) osq) os = _; rw [grow_grow, World.drewN_drewN]⟩
    generalize grow (W1.drewN nq) osq = W2 at *
    clear gx0 gx1 gy0 gy1 gn gc hnx hny KG KX
    go_wp2_with fail
    refine (HCMP.out (min yl n) (min xl n) W2).mono ?_
    rintro e w3 ⟨rfl, rfl⟩
    go_wp2_with fail
    go_ret
    rw [KC.out, if_neg KE.out]
    exact ⟨rfl, F2.out⟩
end Go.Proofs.Ytdjnadnmlcpaaaa
