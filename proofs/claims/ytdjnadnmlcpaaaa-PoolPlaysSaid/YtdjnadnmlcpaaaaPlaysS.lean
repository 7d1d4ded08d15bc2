import Derived.Test.YtdjnadnmlcpaaaaAwake
/-! PoolPlays: the law's world, and its steps as facts. -/
namespace Go.Proofs.Ytdjnadnmlcpaaaa
open Go.RowKit

structure ActI where
  op : Int
  cl : Int
  n : Int
  most : Int
  rv : Value
  runs : List (Int × Int)
instance : Inhabited ActI := ⟨⟨0, 0, 0, 0, .slice none 0 0, []⟩⟩
def i64 (x : Int) : Prop := -9223372036854775808 ≤ x ∧ x ≤ 9223372036854775807
def ActI.cells (a : ActI) : List Value := [.int .i64 a.op, .int .i64 a.cl, .int .i64 a.n, .int .i64 a.most, a.rv]

/-- The acts as they came in. -/
structure ActsIn (w : World) (b o : Nat) (L : List ActI) : Prop where
  blk : b < w.heap.size
  cell : ∀ k, k < L.length → w.cell? ⟨b, o + k * 5, none⟩ = some (.int .i64 L[k]!.op) ∧ w.cell? ⟨b, o + k * 5 + 1, none⟩ = some (.int .i64 L[k]!.cl) ∧ w.cell? ⟨b, o + k * 5 + 2, none⟩ = some (.int .i64 L[k]!.n) ∧
    w.cell? ⟨b, o + k * 5 + 3, none⟩ = some (.int .i64 L[k]!.most) ∧ w.cell? ⟨b, o + k * 5 + 4, none⟩ = some L[k]!.rv
  runs : ∀ k, k < L.length → (∃ A n cap, L[k]!.rv = .slice A n cap ∧ n ≤ 9223372036854775807 ∧ (n ≤ 6 → SlP w L[k]!.rv L[k]!.runs ∧ (∀ x ∈ L[k]!.runs, i64 x.1 ∧ i64 x.2))) ∧ i64 L[k]!.op ∧ i64 L[k]!.cl ∧ i64 L[k]!.n ∧ i64 L[k]!.most

theorem infoSl : (Try.prog.info? 38).map (fun i => (i.zero, i.size, i.bytes)) = some (some (.slice none 0 0), 1, 24) := by kernel_rfl
theorem one_sl (A : Option Addr) (n c : Nat) : ∀ u ∈ [Value.slice A n c], u.oneCell' = true := by
  intro u hu; simp at hu; subst hu; rfl

theorem own_ne_own {w : World} {b1 b2 n1 n2 s1 s2 : Nat} {e1 e2 : TypeId} {v1 v2 : Value} {x1 x2 : List Value} (h1 : w.ownsRow b1 e1 s1 v1 n1 x1) (h2 : w.ownsRow b2 e2 s2 v2 n2 x2) (he : e1 ≠ e2) : v1.ownBlock = none ∨ v1.ownBlock ≠ v2.ownBlock := by
  rcases h1.2 with ⟨rfl, _⟩ | ⟨g, c, cur, rfl, _, hg, _⟩
  · exact Or.inl rfl
  · refine Or.inr fun hh => ?_
    rcases h2.2 with ⟨rfl, _⟩ | ⟨g', c', cur', rfl, _, hg', _⟩
    · cases hh
    · injection hh with hh
      have hh : g = g' := hh
      subst hh
      rw [hg] at hg'
      injection hg' with hg'; injection hg' with _ hg' _
      exact he hg'

theorem own_ne_blk {w : World} {b1 n1 s1 k : Nat} {e1 t : TypeId} {v1 : Value} {x1 : List Value} {cs : Array Value} (h1 : w.ownsRow b1 e1 s1 v1 n1 x1) (h2 : Blk w k t cs) (he : e1 ≠ t) : v1.ownBlock ≠ some k := by
  intro hh
  rcases h1.2 with ⟨rfl, _⟩ | ⟨g, c, cur, rfl, _, hg, _⟩
  · cases hh
  · injection hh with hh
    have hh : g = k := hh
    subst hh
    unfold Blk at h2
    rw [hg] at h2
    injection h2 with h2; injection h2 with _ h2 _
    exact he h2

theorem blk_ne {w : World} {k k' : Nat} {t t' : TypeId} {cs cs' : Array Value} (h1 : Blk w k t cs) (h2 : Blk w k' t' cs') (he : t ≠ t') : k ≠ k' := by
  intro hh; subst hh
  unfold Blk at h1 h2
  rw [h1] at h2
  injection h2 with h2; injection h2 with _ h2 _
  exact he h2

structure St (w wr : World) (q B9 p2 : Nat) (g : Geo) (pv : Value) (ps : List Int) (bv : Value) (bs : List Int) (tv : Value) (T : List (Value × List (Int × Int))) : Prop where
  ok : PoolOk wr q g pv ps
  b9 : Blk wr B9 33 #[bv]
  brow : wr.ownsRow 0 58 1 bv bs.length (ints .u64 bs)
  bx : Blk wr p2 23 #[.int .i64 g.b, .int .i64 g.n, .int .i64 g.c, .int .i64 g.k]
  told : wr.ownsRow w.heap.size 38 1 tv T.length (T.map (·.1))
  ent : ∀ x ∈ T, wr.ownsRow 0 52 2 x.1 x.2.length (prs x.2) ∧ x.2.length ≤ 1024
  frame : Below w.heap.size w wr
  ord : w.heap.size ≤ q ∧ w.heap.size ≤ B9 ∧ w.heap.size ≤ p2

variable {w wr : World} {q B9 p2 : Nat} {g : Geo} {pv bv tv : Value} {ps bs : List Int} {T : List (Value × List (Int × Int))}

theorem St.b9len (h : St w wr q B9 p2 g pv ps bv bs tv T) : B9 < wr.heap.size := Blk.lt h.b9

/-- Calls that keep what lies there. -/
theorem St.below (h : St w wr q B9 p2 g pv ps bv bs tv T) {w' : World} (hb : Below wr.heap.size wr w') : St w w' q B9 p2 g pv ps bv bs tv T :=
  ⟨h.ok.below hb, Blk.below h.b9 hb (Blk.lt h.b9), own_below h.brow hb, Blk.below h.bx hb (Blk.lt h.bx), own_below h.told hb, fun x hx => ⟨own_below (h.ent x hx).1 hb, (h.ent x hx).2⟩, h.frame.trans (hb.mono h.frame.size), h.ord⟩

/-- The pool's own steps: its block takes other words. -/
theorem St.pool (h : St w wr q B9 p2 g pv ps bv bs tv T) {w' : World} {pv' : Value} {ps' : List Int} (hP : PoolTo wr w' q g pv' ps') : St w w' q B9 p2 g pv' ps' bv bs tv T := by
  have hq := h.ok.at_
  refine ⟨hP.ok, Blk.grown h.b9 hP.grown (by have := blk_ne h.b9 hq (by decide); simp [this]), h.brow.kept hP.grown (Or.inr (own_ne_blk h.brow hq (by decide))), Blk.grown h.bx hP.grown (by have := blk_ne h.bx hq (by decide); simp [this]),
    h.told.kept hP.grown (Or.inr (own_ne_blk h.told hq (by decide))), fun x hx => ⟨(h.ent x hx).1.kept hP.grown (Or.inr (own_ne_blk (h.ent x hx).1 hq (by decide))), (h.ent x hx).2⟩, h.frame.grown hP.grown h.frame.size (fun k hk => by injection hk with hk; have := h.ord; omega), h.ord⟩

/-- The law's own bits take other words: a store into their block behind calls that keep what lies there. -/
theorem St.bits (h : St w wr q B9 p2 g pv ps bv bs tv T) {w' : World} (hb : Below wr.heap.size wr w') {bv' : Value} {bs' : List Int} {base : Nat} (ho : w'.ownsRow base 58 1 bv' bs'.length (ints .u64 bs')) :
    St w (w'.setCell ⟨B9, 0, none⟩ bv') q B9 p2 g pv ps bv' bs' tv T := by
  have h2 := h.below hb
  have hg : w'.grownBy (w'.setCell ⟨B9, 0, none⟩ bv') (some B9) := grown_setCell (grown_of_below (Below.refl _ _) _) (Or.inl rfl) _
  refine ⟨⟨Blk.grown h2.ok.at_ hg (by have := blk_ne h2.ok.at_ h2.b9 (by decide); simp [this]), ?_, h.ok.pos, h.ok.len, h.ok.good, h2.ok.ow.kept hg (Or.inr (own_ne_blk h2.ok.ow h2.b9 (by decide)))⟩, Blk.set_ h2.b9 0 _,
    (own_weak ho (Nat.zero_le _)).kept hg (Or.inr (own_ne_blk ho h2.b9 (by decide))), Blk.grown h2.bx hg (by have := blk_ne h2.bx h2.b9 (by decide); simp [this]), h2.told.kept hg (Or.inr (own_ne_blk h2.told h2.b9 (by decide))),
    fun x hx => ⟨(h2.ent x hx).1.kept hg (Or.inr (own_ne_blk (h2.ent x hx).1 h2.b9 (by decide))), (h2.ent x hx).2⟩, h2.frame.setCell (by exact h.ord.2.1) _, h.ord⟩
  exact h2.ok.row.grown hg (Or.inr (own_ne_blk h2.ok.ow h2.b9 (by decide)))

/-- The told row takes another form: all else is kept. -/
theorem St.row (h : St w wr q B9 p2 g pv ps bv bs tv T) {w' : World} (hg : wr.grownBy w' tv.ownBlock) {tv' : Value} {T' : List (Value × List (Int × Int))} (ho : w'.ownsRow w.heap.size 38 1 tv' T'.length (T'.map (·.1)))
    (he : ∀ x ∈ T', (wr.ownsRow 0 52 2 x.1 x.2.length (prs x.2) ∧ x.2.length ≤ 1024)) (hf : Below w.heap.size w w') : St w w' q B9 p2 g pv ps bv bs tv' T' := by
  have nb : ∀ {k : Nat} {t : TypeId} {cs : Array Value}, Blk wr k t cs → 38 ≠ t → some k ≠ tv.ownBlock := fun hb ht hh => own_ne_blk h.told hb ht hh.symm
  have no : ∀ {b n s : Nat} {e : TypeId} {v : Value} {x : List Value}, wr.ownsRow b e s v n x → e ≠ 38 → v.ownBlock = none ∨ v.ownBlock ≠ tv.ownBlock := fun ho ht => own_ne_own ho h.told ht
  exact ⟨⟨Blk.grown h.ok.at_ hg (nb h.ok.at_ (by decide)), h.ok.row.grown hg (no h.ok.ow (by decide)), h.ok.pos, h.ok.len, h.ok.good, h.ok.ow.kept hg (no h.ok.ow (by decide))⟩, Blk.grown h.b9 hg (nb h.b9 (by decide)),
    h.brow.kept hg (no h.brow (by decide)), Blk.grown h.bx hg (nb h.bx (by decide)), ho, fun x hx => ⟨(he x hx).1.kept hg (no (he x hx).1 (by decide)), (he x hx).2⟩, hf, h.ord⟩
end Go.Proofs.Ytdjnadnmlcpaaaa
