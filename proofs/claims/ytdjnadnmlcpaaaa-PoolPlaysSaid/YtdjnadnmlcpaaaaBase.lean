/- Words for memory: a slice that reads as a list of cells, a fact kept from the walk, frames. No Go program is named here. -/
import Derived.WalkKit
import Derived.WalkSpells
import Derived.WalkLawsBesides
import Derived.Laws.Rows
import Derived.Laws.OwnMore
import Derived.Deep.Draws
import Derived.Deep.QuietTactic
import Derived.Deep.AppendLies
import Derived.BigQuiet
import Derived.BigRegion
import Derived.RegionTactic
import Derived.Outline
import Derived.Deep.DeepFit
import Derived.Deep.OwnRows
import Derived.Deep.RegionHeld3
import Derived.Deep.RegionLaw
namespace Go.Proofs.Ytdjnadnmlcpaaaa
open Go.RowKit

/-- A fact kept from the walk. -/
structure Kp (p : Prop) : Prop where
  mk ::
  out : p

theorem add_none (b o j : Nat) : (⟨b, o, none⟩ : Addr).add j = ⟨b, o + j, none⟩ := by
  unfold Addr.add
  split
  · subst_vars; rfl
  · rfl

theorem spot_none {w : World} {a : Addr} {v : Value} (h : w.cell? a = some v) : a = ⟨a.block, a.off, none⟩ := by
  obtain ⟨b, o, s⟩ := a
  cases s with
  | none => rfl
  | some s =>
    unfold World.cell? at h
    split at h <;> simp at h

/-- The slice value v, of n elements of sz cells each, holds the cells cs. -/
def Sl (w : World) (sz : Nat) (v : Value) (n : Nat) (cs : List Value) : Prop :=
  cs.length = n * sz ∧ n ≤ 140737488355328 ∧ ((v = .slice none 0 0 ∧ n = 0) ∨
    ∃ a cap, v = .slice (some a) n cap ∧ n ≤ cap ∧ ∀ j u, cs[j]? = some u → w.cell? (a.add j) = some u)

theorem Sl.nil (w : World) (sz : Nat) : Sl w sz (.slice none 0 0) 0 [] := ⟨by simp, by omega, .inl ⟨rfl, rfl⟩⟩

theorem Sl.keep {w w1 : World} {sz n : Nat} {v : Value} {cs : List Value} (h : Sl w sz v n cs) (hk : ∀ a u, v.ownBlock = some a.block → w.cell? a = some u → w1.cell? a = some u) : Sl w1 sz v n cs := by
  obtain ⟨h1, h2, h3⟩ := h
  refine ⟨h1, h2, ?_⟩
  rcases h3 with h3 | ⟨a, cap, rfl, hc, hx⟩
  · exact .inl h3
  · refine .inr ⟨a, cap, rfl, hc, fun j u hu => hk _ _ ?_ (hx j u hu)⟩
    unfold Addr.add; split <;> rfl

theorem Sl.below {w w1 : World} {sz n : Nat} {v : Value} {cs : List Value} (h : Sl w sz v n cs) (hb : Below w.heap.size w w1) : Sl w1 sz v n cs :=
  h.keep fun _ _ _ hc => (hb.cell (World.block_lt_of_cell? _ _ hc)).trans hc

theorem Sl.grown {w w1 : World} {sz n : Nat} {v : Value} {cs : List Value} {row : Option Nat} (h : Sl w sz v n cs) (hg : w.grownBy w1 row) (hne : v.ownBlock = none ∨ v.ownBlock ≠ row) : Sl w1 sz v n cs :=
  h.keep fun a u ha hc => hg.cell hc (by rcases hne with hne | hne <;> rw [ha] at hne <;> first | exact hne | cases hne)

theorem Sl.of_own {w : World} {base n sz : Nat} {e : TypeId} {v : Value} {cs : List Value} (h : w.ownsRow base e sz v n cs) (hn : n ≤ 140737488355328) : Sl w sz v n cs := by
  refine ⟨h.1, hn, ?_⟩
  have hc := fun g hg => h.cells (g := g) hg
  rcases h.2 with h3 | ⟨g, cap, cur, rfl, _, _, hnc, _⟩
  · exact .inl h3
  · exact .inr ⟨⟨g, 0, none⟩, cap, rfl, hnc, hc g rfl⟩

/-- The form of a slice's value; its cells at plain addresses. -/
theorem Sl.form {w : World} {sz n : Nat} {v : Value} {cs : List Value} (h : Sl w sz v n cs) (hsz : 0 < sz) :
    ∃ A cap, v = .slice A n cap ∧ n ≤ cap ∧ (0 < n → ∃ b o, A = some ⟨b, o, none⟩ ∧ b < w.heap.size ∧ ∀ j u, cs[j]? = some u → w.cell? ⟨b, o + j, none⟩ = some u) := by
  obtain ⟨h1, h2, h3⟩ := h
  rcases h3 with ⟨rfl, rfl⟩ | ⟨a, cap, rfl, hc, hx⟩
  · exact ⟨none, 0, rfl, Nat.le_refl _, fun h => absurd h (by omega)⟩
  · refine ⟨some a, cap, rfl, hc, fun hn => ?_⟩
    have h0 : 0 < cs.length := by rw [h1]; exact Nat.mul_pos hn hsz
    have hc0 := hx 0 _ (List.getElem?_eq_getElem h0)
    have ha : a.add 0 = a := rfl
    rw [ha] at hc0
    have hp := spot_none hc0
    refine ⟨a.block, a.off, by rw [← hp], World.block_lt_of_cell? _ _ hc0, fun j u hu => ?_⟩
    rw [← add_none, ← hp]
    exact hx j u hu

/-! ### rows of numbers, rows of pairs of numbers -/
def ints (k : IntKind) (xs : List Int) : List Value := xs.map (.int k)
theorem ints_length (k : IntKind) (xs : List Int) : (ints k xs).length = xs.length := by simp [ints]
theorem ints_get (k : IntKind) (xs : List Int) (j : Nat) (h : j < xs.length) : (ints k xs)[j]? = some (.int k (xs.getD j 0)) := by
  simp [ints, List.getD_eq_getElem?_getD, List.getElem?_eq_getElem h]
theorem ints_append (k : IntKind) (xs ys : List Int) : ints k (xs ++ ys) = ints k xs ++ ints k ys := by simp [ints]
theorem ints_set (k : IntKind) (xs : List Int) (i : Nat) (x : Int) : (ints k xs).set i (.int k x) = ints k (xs.set i x) := by simp [ints, List.map_set]

def prs (rs : List (Int × Int)) : List Value := rs.flatMap fun r => [.int .i64 r.1, .int .i64 r.2]
theorem prs_length (rs : List (Int × Int)) : (prs rs).length = rs.length * 2 := by
  induction rs with
  | nil => rfl
  | cons r rs ih => simp only [prs, List.flatMap_cons, List.length_append, List.length_cons, List.length_nil] at ih ⊢; omega
theorem prs_append (rs qs : List (Int × Int)) : prs (rs ++ qs) = prs rs ++ prs qs := by simp [prs]
theorem prs_get0 : ∀ (rs : List (Int × Int)) (j : Nat), j < rs.length → (prs rs)[j * 2]? = some (.int .i64 (rs.getD j (0, 0)).1)
  | r :: rs, 0, _ => by simp [prs]
  | r :: rs, j + 1, h => by
    have := prs_get0 rs j (by simpa using h)
    have e : (j + 1) * 2 = j * 2 + 1 + 1 := by omega
    simp only [prs, List.flatMap_cons, List.cons_append, List.nil_append, List.getD_cons_succ] at this ⊢
    rw [e, List.getElem?_cons_succ, List.getElem?_cons_succ]
    exact this
theorem prs_get1 : ∀ (rs : List (Int × Int)) (j : Nat), j < rs.length → (prs rs)[j * 2 + 1]? = some (.int .i64 (rs.getD j (0, 0)).2)
  | r :: rs, 0, _ => by simp [prs]
  | r :: rs, j + 1, h => by
    have := prs_get1 rs j (by simpa using h)
    have e : (j + 1) * 2 + 1 = j * 2 + 1 + 1 + 1 := by omega
    simp only [prs, List.flatMap_cons, List.cons_append, List.nil_append, List.getD_cons_succ] at this ⊢
    rw [e, List.getElem?_cons_succ, List.getElem?_cons_succ]
    exact this

abbrev SlI (w : World) (k : IntKind) (v : Value) (xs : List Int) : Prop := Sl w 1 v xs.length (ints k xs)
abbrev SlP (w : World) (v : Value) (rs : List (Int × Int)) : Prop := Sl w 2 v rs.length (prs rs)

theorem SlI.form {w : World} {k : IntKind} {v : Value} {xs : List Int} (h : SlI w k v xs) :
    ∃ A cap, v = .slice A xs.length cap ∧ xs.length ≤ cap ∧ (0 < xs.length → ∃ b o, A = some ⟨b, o, none⟩ ∧ b < w.heap.size ∧ ∀ j, j < xs.length → w.cell? ⟨b, o + j, none⟩ = some (.int k (xs.getD j 0))) := by
  obtain ⟨A, cap, hv, hc, hx⟩ := Sl.form h (by omega)
  exact ⟨A, cap, hv, hc, fun hn => by
    obtain ⟨b, o, hA, hb, hx⟩ := hx hn
    exact ⟨b, o, hA, hb, fun j hj => hx j _ (ints_get k xs j hj)⟩⟩

theorem SlP.form {w : World} {v : Value} {rs : List (Int × Int)} (h : SlP w v rs) :
    ∃ A cap, v = .slice A rs.length cap ∧ rs.length ≤ cap ∧ (0 < rs.length → ∃ b o, A = some ⟨b, o, none⟩ ∧ b < w.heap.size ∧ ∀ j, j < rs.length →
      w.cell? ⟨b, o + j * 2, none⟩ = some (.int .i64 (rs.getD j (0, 0)).1) ∧ w.cell? ⟨b, o + j * 2 + 1, none⟩ = some (.int .i64 (rs.getD j (0, 0)).2)) := by
  obtain ⟨A, cap, hv, hc, hx⟩ := Sl.form h (by omega)
  exact ⟨A, cap, hv, hc, fun hn => by
    obtain ⟨b, o, hA, hb, hx⟩ := hx hn
    exact ⟨b, o, hA, hb, fun j hj => ⟨hx _ _ (prs_get0 rs j hj), hx _ _ (prs_get1 rs j hj)⟩⟩⟩

/-! ### blocks known whole -/
def Blk (w : World) (g : Nat) (t : TypeId) (cs : Array Value) : Prop := w.heap[g]? = some (.cells cs t (0, 0))
section
variable {w w' : World} {g : Nat} {t : TypeId} {cs : Array Value}
theorem Blk.lt (h : Blk w g t cs) : g < w.heap.size := by
  rcases Nat.lt_or_ge g w.heap.size with hlt | hge
  · exact hlt
  · unfold Blk at h; rw [Array.getElem?_eq_none hge] at h; cases h
theorem Blk.cell (h : Blk w g t cs) (i : Nat) : w.cell? ⟨g, i, none⟩ = cs[i]? := cell_of_row w g i cs t (0, 0) h
theorem Blk.frozen (h : Blk w g t cs) (i : Nat) : w.frozen? ⟨g, i, none⟩ = false := by
  unfold Blk at h
  simp [World.frozen?, h]
theorem Blk.new (w : World) (t : TypeId) (cs : Array Value) : Blk (w.alloc (.cells cs t)) w.heap.size t cs := heap_alloc_new w _
theorem Blk.alloc (h : Blk w g t cs) (o : Obj) : Blk (w.alloc o) g t cs := (Below.heap_alloc w o g h.lt).trans h
theorem Blk.set_ (h : Blk w g t cs) (i : Nat) (u : Value) : Blk (w.setCell ⟨g, i, none⟩ u) g t (cs.setIfInBounds i u) := by
  unfold Blk at h ⊢
  simp [World.setCell, Array.getElem?_modify, h]
theorem Blk.far (h : Blk w g t cs) {p : Addr} (hp : g ≠ p.block) (u : Value) : Blk (w.setCell p u) g t cs := (Below.heap_setCell w p u g hp).trans h
theorem Blk.below {B : Nat} (h : Blk w g t cs) (hb : Below B w w') (hg : g < B) : Blk w' g t cs := (hb.block g hg).trans h
theorem Blk.grown {row : Option Nat} (h : Blk w g t cs) (hb : w.grownBy w' row) (hg : some g ≠ row) : Blk w' g t cs := (hb.block g h.lt hg).trans h
end

/-! ### frames -/
theorem below_drewN {B : Nat} {a w : World} (h : Below B a w) (n : Nat) : Below B a (w.drewN n) := ⟨h.os, h.tape, h.output, h.size, h.block⟩
theorem below_then {w w1 w2 : World} (h : Below w.heap.size w w1) (k : Below w1.heap.size w1 w2) : Below w.heap.size w w2 :=
  h.trans ⟨k.os, k.tape, k.output, k.size, fun i hi => k.block i (Nat.lt_of_lt_of_le hi h.size)⟩
theorem cells_below {W w1 : World} (hb : Below W.heap.size W w1) : (∀ b o, b < W.heap.size → w1.cell? ⟨b, o, none⟩ = W.cell? ⟨b, o, none⟩) ∧ (∀ b o, b < W.heap.size → w1.frozen? ⟨b, o, none⟩ = W.frozen? ⟨b, o, none⟩) :=
  ⟨fun b o h => hb.cell (p := ⟨b, o, none⟩) h, fun b o h => hb.frozen (p := ⟨b, o, none⟩) h⟩
theorem grown_of_below {w w1 : World} (h : Below w.heap.size w w1) (row : Option Nat) : w.grownBy w1 row := ⟨h.os, h.tape, h.output, h.size, fun i hi _ => h.block i hi⟩
theorem grown_trans {a b c : World} {row : Option Nat} (h : a.grownBy b row) (k : b.grownBy c row) : a.grownBy c row :=
  ⟨k.os.trans h.os, k.tape.trans h.tape, k.output.trans h.output, Nat.le_trans h.size k.size, fun i hi hn => (k.block i (Nat.lt_of_lt_of_le hi h.size) hn).trans (h.block i hi hn)⟩
theorem grown_drewN {a w : World} {row : Option Nat} (h : a.grownBy w row) (n : Nat) : a.grownBy (w.drewN n) row := ⟨h.os, h.tape, h.output, h.size, h.block⟩
theorem grown_alloc {a w : World} {row : Option Nat} (h : a.grownBy w row) (o : Obj) : a.grownBy (w.alloc o) row :=
  ⟨h.os, h.tape, h.output, Nat.le_trans h.size (by simp), fun i hi hne => (Below.heap_alloc w o i (Nat.lt_of_lt_of_le hi h.size)).trans (h.block i hi hne)⟩
theorem grown_setCell {a w : World} {g : Nat} (h : a.grownBy w (some g)) {p : Addr} (hp : p.block = g ∨ a.heap.size ≤ p.block) (u : Value) : a.grownBy (w.setCell p u) (some g) :=
  ⟨h.os, h.tape, h.output, by simpa [World.setCell] using h.size, fun i hi hne => (Below.heap_setCell w p u i (by
    rintro rfl
    rcases hp with hp | hp
    · exact hne (by rw [hp])
    · omega)).trans (h.block i hi hne)⟩
theorem own_below {w w1 : World} {base : Nat} {e : TypeId} {size n : Nat} {v : Value} {xs : List Value} (h : w.ownsRow base e size v n xs) (hb : Below w.heap.size w w1) : w1.ownsRow base e size v n xs :=
  h.kept (grown_of_below hb none) (by cases v.ownBlock <;> simp)
theorem own_weak {w : World} {base base' : Nat} {e : TypeId} {size n : Nat} {v : Value} {xs : List Value} (h : w.ownsRow base e size v n xs) (hb : base' ≤ base) : w.ownsRow base' e size v n xs := by
  obtain ⟨h1, h2⟩ := h
  refine ⟨h1, ?_⟩
  rcases h2 with h2 | ⟨g, cap, cur, rfl, hg, r⟩
  · exact .inl h2
  · exact .inr ⟨g, cap, cur, rfl, Nat.le_trans hb hg, r⟩

theorem own_made (W : World) (base : Nat) (e : TypeId) (k : IntKind) (m : Nat) (hb : base ≤ W.heap.size) (hm : m ≤ 9223372036854775807) :
    (W.alloc (.cells (madeCells #[.int k 0] m) e)).ownsRow base e 1 (.slice (some ⟨W.heap.size, 0, none⟩) m m) m (ints k (List.replicate m 0)) := by
  have h := World.ownsRow_lit (base := base) (e := e) (size := 1) W (madeCells #[.int k 0] m) m hb (by simpa [maxLen] using hm) (by simp [size_madeCells])
  have hl : (madeCells #[Value.int k 0] m).toList = ints k (List.replicate m 0) := by
    apply List.ext_getElem
    · simp [ints, madeCells]
    · intro i h1 h2
      simp [ints, madeCells, Nat.mod_one]
  rwa [hl] at h

/-! ### append of one element that has just been boxed -/
section
variable {P : Program} {ops : Array Oper} {rest : List Oper} {o : Oper} {a : Act} {Q : Exit → Act → World → Prop}
theorem app1 {w0 W : World} (base : Nat) (hgd : o.guard = none) (s x : Operand) (t e : TypeId) (z : Value) (sz bytes : Nat)
    (ho : o.op = .call { callee := .builtin .append, args := #[s, x], argTypes := #[t, t] })
    (ht : P.underlying t = some (.slice e)) (hinfo : (P.info? e).map (fun i => (i.zero, i.size, i.bytes)) = some (some z, sz, bytes)) (hz : z.cells.size = sz) (hs0 : 0 < sz)
    (v : Value) (n : Nat) (xs cs : List Value) (hs : a.eval s = v) (g : Nat) (hx : a.eval x = .slice (some ⟨g, 0, none⟩) 1 1) (hgs : g = W.heap.size) (hcs : cs.length = sz) (h1 : ∀ u ∈ cs, u.oneCell' = true)
    (HO : W.ownsRow base e sz v n xs) (HB : Below base w0 W) (hbase : base ≤ W.heap.size) (hl : (n + 1) * bytes ≤ 140737488355328) (hl2 : n < 140737488355328)
    (h : ∀ v1 w1, Kp (w1.ownsRow base e sz v1 (n + 1) (xs ++ cs)) → Kp (Below base w0 w1) → Kp (W.grownBy w1 v.ownBlock) → wpList P ops Q rest (a.put o.dst v1) w1) :
    wpList P ops Q (o :: rest) a (W.alloc (.cells cs.toArray e)) := by
  subst hgs
  obtain ⟨i0, hi, hzz⟩ := Option.map_eq_some_iff.1 hinfo
  simp only [Prod.mk.injEq] at hzz
  obtain ⟨hz0, hz1, hz2⟩ := hzz
  refine wpList_append_own (W.alloc (.cells cs.toArray e)) hgd s x t ho base e i0 z sz bytes ht hi hz0 hz1 hz2 hz hs0 v n xs hs (HO.alloc _) ⟨W.heap.size, 0, none⟩ 1 1 cs hx (by omega)
    (fun j u hu => by rw [add_none, World.cell?_alloc_new]; simpa using hu) h1 (by simp only [maxLen]; omega) hl (by simp; omega) ?_
  intro v1 w1 hown hg _
  have hb1 : ∀ k, v.ownBlock = some k → base ≤ k := fun k hk => (HO.lt k hk).1
  exact h v1 w1 ⟨hown⟩ ⟨(HB.alloc hbase _).grown hg (by simp; omega) hb1⟩ ⟨grown_trans (World.grownBy_alloc W _ _) hg⟩
/-- The same as a step of a region that draws its order. -/
theorem stepApp {w0 W : World} {K : Act → World → Prop} {E : Prop} (base : Nat) (hgd : o.guard = none) (s x : Operand) (t e : TypeId) (z : Value) (sz bytes : Nat)
    (ho : o.op = .call { callee := .builtin .append, args := #[s, x], argTypes := #[t, t] })
    (ht : P.underlying t = some (.slice e)) (hinfo : (P.info? e).map (fun i => (i.zero, i.size, i.bytes)) = some (some z, sz, bytes)) (hz : z.cells.size = sz) (hs0 : 0 < sz)
    (v : Value) (n : Nat) (xs cs : List Value) (hs : a.eval s = v) (g : Nat) (hx : a.eval x = .slice (some ⟨g, 0, none⟩) 1 1) (hn : ∀ j u, cs[j]? = some u → W.cell? ⟨g, j, none⟩ = some u) (hcs : cs.length = sz) (h1 : ∀ u ∈ cs, u.oneCell' = true)
    (HO : W.ownsRow base e sz v n xs) (HB : Below base w0 W) (hbase : base ≤ W.heap.size) (hl : (n + 1) * bytes ≤ 140737488355328) (hl2 : n < 140737488355328)
    (h : ∀ v1 w1, Kp (w1.ownsRow base e sz v1 (n + 1) (xs ++ cs)) → Kp (Below base w0 w1) → Kp (W.grownBy w1 v.ownBlock) → K (a.put o.dst v1) w1) :
    if Region.wanted o (yielded ops a.tmps) = true then Oper.wp P o a W K Q else E := by
  have hw : Region.wanted o (yielded ops a.tmps) = true := by simp [Region.wanted, hgd]
  rw [if_pos hw]
  obtain ⟨i0, hi, hzz⟩ := Option.map_eq_some_iff.1 hinfo
  simp only [Prod.mk.injEq] at hzz
  obtain ⟨hz0, hz1, hz2⟩ := hzz
  obtain ⟨v', w', hr, h2, h3, _⟩ := run_append_own (P := P) W base t o.type e i0 z sz bytes ht hi hz0 hz1 hz2 hz hs0 v n xs HO ⟨g, 0, none⟩ 1 1 cs (by omega)
    (fun j u hu => by rw [add_none, Nat.zero_add]; exact hn j u hu) h1 (by simp only [maxLen]; omega) hl hbase
  unfold Oper.wp execOp
  simp only [ho, resolve, invoke, builtin, Sem.run_bind, Sem.run_pure, Result.andThen_ok, List.map_toArray, List.map_cons, List.map_nil, hs, hx, hr]
  exact h v' w' ⟨h2⟩ ⟨HB.grown h3 hbase (fun k hk => (HO.lt k hk).1)⟩ ⟨h3⟩
end

end Go.Proofs.Ytdjnadnmlcpaaaa
