import Derived.Test.YtdjnadnmlcpaaaaStSym
/-! slices.insertionSort from a world of the sort's; slices.stable; slices.SortStableFunc at runs of blocks. -/
namespace Go.Proofs.Ytdjnadnmlcpaaaa
open Go.Shelf Go.RowKit Go.Lib Go.Sort

theorem encR_one (x : Int × Int) : ∀ v ∈ encR x, v.oneCell' = true := by
  intro v hv
  simp [encR] at hv
  rcases hv with rfl | rfl <;> rfl

theorem insB_calls (g : Nat) (cb : Array Value) (blk off cap a b : Nat) (cf : Int × Int → Int × Int → Int) (d0 d : Array (Int × Int)) (w0 w : World)
    (I : SymIn g cb blk off cf d0 d w0) (S : SWK encR 2 w0 blk off d w) (hab : a ≤ b) (hb : b ≤ d.size) :
    Calls Try.prog 47 #[.slice (some ⟨blk, off, none⟩) d.size cap, .int .i64 a, .int .i64 b, .func (.func g) #[] cb] w fun e w' => e = .returned (.tuple #[]) ∧ ∃ d', SymOut cf a b d d' ∧ SWK encR 2 w0 blk off d' w' := by
  have hC : CmpLays Try.prog g cb encR 2 cf blk off d.size w := fun m os dk hs x y => by
    obtain ⟨m', os', he⟩ := S.on I.R.hblk m dk os hs
    rw [he]
    exact I.hC m' os' dk (by rw [hs, I.hs]) x y
  have hp := insertionSort_holds (lt := ltOf cf) I.hS d a b hab hb
  exact (AnyQ.insertionSortCmpFunc Try.insR 2 Try.isAgg52 Try.sizeOf52 encR encR_len encR_one cf g cb blk off cap a b d w I.eg hC (S.holds I.R.hblk I.R.hH I.hs.symm) (S.lt I.R.hblk) hab hb (by have := I.hsz; omega)).mono
    fun _ _ ⟨he, n, os, hw⟩ => ⟨he, _, ⟨hp.1.1, hp.1, hp.2⟩, by rw [hw]; exact S.on I.R.hblk n _ os hp.1.1⟩

theorem symR_calls (g : Nat) (cb : Array Value) (blk off cap : Nat) (cf : Int × Int → Int × Int → Int) (d0 : Array (Int × Int)) (w0 : World) (F : Nat) : ∀ (a m b : Nat) (d : Array (Int × Int)) (w : World),
    b - a ≤ F → SymIn g cb blk off cf d0 d w0 → SWK encR 2 w0 blk off d w → a < m → m < b → b ≤ d.size → SortedIn (ltOf cf) a m d → SortedIn (ltOf cf) m b d →
    Calls Try.prog 48 #[.slice (some ⟨blk, off, none⟩) d.size cap, .int .i64 a, .int .i64 m, .int .i64 b, .func (.func g) #[] cb] w fun e w' => e = .returned (.tuple #[]) ∧ ∃ d', SymOut cf a b d d' ∧ SWK encR 2 w0 blk off d' w' := by
  induction F with
  | zero => intro a m b d w h1 _ _ h2 h3; omega
  | succ F ih =>
    intro a m b d w hF I S ham hmb hb hl hr
    by_cases h1 : m = a + 1
    · subst h1
      exact symA_calls g cb blk off cap a b cf d0 d w0 w I S hmb hb hr
    · by_cases h2 : b = m + 1
      · subst h2
        exact symB_calls g cb blk off cap a m cf d0 d w0 w I S (by omega) hb hl
      · refine symG_calls g cb blk off cap a m b cf d0 d w0 w I S (by omega) (by omega) hb hl hr fun a' m' b' d' w' hlt hs S' x1 x2 x3 y1 y2 => ?_
        rw [← hs]
        exact ih a' m' b' d' w' (by omega) (I.at hs) S' x1 x2 (by omega) y1 y2

/-- Blocks of bs sorted one by one. -/
structure Lumps (cf : Int × Int → Int × Int → Int) (n bs : Nat) (d d' : Array (Int × Int)) : Prop where
  size : d'.size = d.size
  perm : PermIn 0 n d d'
  srt : ∀ a, bs ∣ a → SortedIn (ltOf cf) a (min (a + bs) n) d'

/-- .. the first of them, up to q. -/
structure LumpsTo (cf : Int × Int → Int × Int → Int) (n bs q : Nat) (d d' : Array (Int × Int)) : Prop where
  size : d'.size = d.size
  perm : PermIn 0 n d d'
  srt : ∀ a, bs ∣ a → a + bs ≤ q → SortedIn (ltOf cf) a (a + bs) d'

theorem LumpsTo.next {cf : Int × Int → Int × Int → Int} {n bs q : Nat} {d d' d'' : Array (Int × Int)} (h : LumpsTo cf n bs q d d') (hq : bs ∣ q) (h0 : 0 < bs) (hn : q + bs ≤ n) (hs : n ≤ d.size) (o : SymOut cf q (q + bs) d' d'') : LumpsTo cf n bs (q + bs) d d'' := by
  refine ⟨by rw [o.size, h.size], permIn_trans _ _ _ _ _ h.perm (permIn_mono _ _ _ _ _ _ (Nat.zero_le _) hn (by rw [h.size]; exact hs) o.perm), fun a ha hle => ?_⟩
  by_cases hc : a + bs ≤ q
  · exact srtSame (h.srt a ha hc) fun x _ h2 => o.perm.2.1 x (Or.inl (by omega))
  · obtain ⟨u, rfl⟩ := ha
    obtain ⟨v, rfl⟩ := hq
    have : u = v := by
      have h1 : bs * v < bs * (u + 1) := by rw [Nat.mul_add]; omega
      have h2 : bs * u < bs * (v + 1) := by rw [Nat.mul_add]; omega
      have := Nat.lt_of_mul_lt_mul_left h1
      have := Nat.lt_of_mul_lt_mul_left h2
      omega
    subst this; exact o.srt

theorem LumpsTo.done {cf : Int × Int → Int × Int → Int} {n bs q : Nat} {d d' d'' : Array (Int × Int)} (h : LumpsTo cf n bs q d d') (hq : bs ∣ q) (h0 : 0 < bs) (hqn : q ≤ n) (hn : n < q + bs) (hs : n ≤ d.size) (o : SymOut cf q n d' d'') : Lumps cf n bs d d'' := by
  refine ⟨by rw [o.size, h.size], permIn_trans _ _ _ _ _ h.perm (permIn_mono _ _ _ _ _ _ (Nat.zero_le _) (Nat.le_refl _) (by rw [h.size]; exact hs) o.perm), fun a ha => ?_⟩
  by_cases hc : a + bs ≤ q
  · rw [Nat.min_eq_left (by omega)]
    exact srtSame (h.srt a ha hc) fun x _ h2 => o.perm.2.1 x (Or.inl (by omega))
  · rw [Nat.min_eq_right (by
      obtain ⟨u, rfl⟩ := ha
      obtain ⟨v, rfl⟩ := hq
      have h1 : bs * v < bs * (u + 1) := by rw [Nat.mul_add]; omega
      have := Nat.lt_of_mul_lt_mul_left h1
      have : bs * v ≤ bs * u := Nat.mul_le_mul_left _ (by omega)
      omega)]
    refine srtCut o.srt ?_ (Nat.le_refl _)
    obtain ⟨u, rfl⟩ := ha
    obtain ⟨v, rfl⟩ := hq
    have h1 : bs * v < bs * (u + 1) := by rw [Nat.mul_add]; omega
    have := Nat.lt_of_mul_lt_mul_left h1
    exact Nat.mul_le_mul_left _ (by omega)
end Go.Proofs.Ytdjnadnmlcpaaaa
