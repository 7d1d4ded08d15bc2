import Derived.Test.YtdjnadnmlcpaaaaTakeP
/-! (*Pool).Take. -/
namespace Go.Proofs.Ytdjnadnmlcpaaaa
open Go.Shelf Go.RowKit Go.Lib Go.Sort

set_option maxHeartbeats 1000000 in
theorem take_bad (q : Nat) (g : Geo) (bv : Value) (bs : List Int) (x n most : Int) (w : World) (h : PoolOk w q g bv bs) (hbad : x < 0 ∨ g.c ≤ x ∨ n < 0 ∨ most < 1) :
    Calls Try.prog 9 #[.pointer (some ⟨q, 0, none⟩), .int .i64 x, .int .i64 n, .int .i64 most] w fun e w' => e = .returned (.tuple #[.slice none 0 0, .int .i64 1]) ∧ Below w.heap.size w w' := by
  have HG : Kp (Calls Try.prog 26 #[.pointer (some ⟨q, 0, none⟩), .int .i64 x] (w.alloc (.cells #[.int .i64 n] 3)) fun e w' => ∃ a b : Int, e = .returned (.tuple #[.int .i64 a, .int .i64 b]) ∧ (0 ≤ a ∧ a ≤ 4096) ∧ (0 ≤ b ∧ b ≤ 4096) ∧ Below (w.alloc (.cells #[.int .i64 n] 3)).heap.size (w.alloc (.cells #[.int .i64 n] 3)) w') :=
    ⟨group_calls q g bv bs x _ (h.below ((Below.refl _ _).alloc (Nat.le_refl _) _))⟩
  obtain ⟨c0, c1, c2, c3, c4⟩ := h.cells
  have hq := h.at_.lt
  clear h c0 c1 c3 c4
  obtain ⟨b, n', c, k⟩ := g
  simp only at c2 hbad
  go_enter Try.func9, Try.ntmps9
  go_wp2_with fail
  refine HG.out.mono ?_
  rintro e w1 ⟨a, b, rfl, ha, hb, hbw⟩
  have hn1 : w1.cell? ⟨w.heap.size, 0, none⟩ = some (.int .i64 n) := (hbw.cell (by simp)).trans (by simp)
  have hc1 : w1.cell? ⟨q, 2, none⟩ = some (.int .i64 c) := (hbw.cell (by simp; omega)).trans ((World.cell?_alloc_past _ _ _ hq).trans c2)
  have HB : Kp (Below w.heap.size w w1) := ⟨((Below.refl _ _).alloc (Nat.le_refl _) _).trans (hbw.mono (by simp))⟩
  have hsz : w.heap.size < w1.heap.size := by have := hbw.size; simp at this; omega
  have hq1 : q < w1.heap.size := by omega
  clear hbw HG c2
  have FIN : ∀ o1 o2, Kp (Below w.heap.size w ((w1.alloc o1).alloc o2)) := fun o1 o2 => ⟨(HB.out.alloc (by omega) _).alloc (by simp; omega) _⟩
  have KF := Kp.mk FIN
  clear FIN HB
  by_cases h1 : x < 0
  · have h1b : decide (x < 0) = true := by simpa using h1
    go_wp2_with fail
    go_ret2
    exact ⟨rfl, (KF.out _ _).out⟩
  · have h1b : decide (x < 0) = false := by simpa using h1
    by_cases h2 : c ≤ x
    · have h2b : decide (c ≤ x) = true := by simpa using h2
      go_wp2_with fail
      go_ret2
      exact ⟨rfl, (KF.out _ _).out⟩
    · have h2b : decide (c ≤ x) = false := by simpa using h2
      by_cases h3 : n < 0
      · have h3b : decide (n < 0) = true := by simpa using h3
        go_wp2_with fail
        go_ret2
        exact ⟨rfl, (KF.out _ _).out⟩
      · have h3b : decide (n < 0) = false := by simpa using h3
        have h4 : most < 1 := by omega
        have h4b : decide (most < 1) = true := by simpa using h4
        go_wp2_with fail
        go_ret2
        exact ⟨rfl, (KF.out _ _).out⟩

/-- What Take lays ahead of the sort. -/
def TakeOut (w w' : World) (e : Ending) (q : Nat) (g : Geo) (bv : Value) (bs : List Int) (n most : Int) : Prop :=
  ∃ S : List (Int × Int), S.Perm (rowsL bs g) ∧ S.Pairwise (fun x y => min y.2 n ≤ min x.2 n) ∧
    ((sumL (counts (enoughL S n)) < n ∨ most < (enoughL S n).length) ∧ e = .returned (.tuple #[.slice none 0 0, .int .i64 7]) ∧ Below w.heap.size w w' ∨
     (¬ sumL (counts (enoughL S n)) < n ∧ ¬ most < (enoughL S n).length) ∧ ∃ v' bv', e = .returned (.tuple #[v', .int .i64 0]) ∧ w'.ownsRow w.heap.size 52 2 v' (enoughL S n).length (prs (enoughL S n)) ∧ PoolTo w w' q g bv' (markL bs true (enoughL S n)))

theorem prs_encR (l : List (Int × Int)) : encL encR l = prs l := by
  induction l with
  | nil => rfl
  | cons x l ih => show encR x ++ encL encR l = _; rw [ih]; rfl

/-- A cell of another block, behind the sort. -/
theorem cell_sorted {w : World} {g n : Nat} {d : Array (Int × Int)} {os : Array Obj} {b : Nat} (hb : b < w.heap.size) (hne : b ≠ g) :
    (sortWorldK encR 2 w g 0 n d os).heap[b]? = w.heap[b]? := by
  have hz : b < (putRow id (Sort.ahead w n) g 0 (flatK encR 2 d)).heap.size := by simp [putRow, mapBlock, Sort.ahead]; exact hb
  have h1 : (Go.Sort.grow (putRow id (Sort.ahead w n) g 0 (flatK encR 2 d)) os).heap[b]? = (putRow id (Sort.ahead w n) g 0 (flatK encR 2 d)).heap[b]? := (Lib.below_grow ((putRow id (Sort.ahead w n) g 0 (flatK encR 2 d)).heap.size) (putRow id (Sort.ahead w n) g 0 (flatK encR 2 d)) (Nat.le_refl _) 0 os).block b hz
  show (Go.Sort.grow (putRow id (Sort.ahead w n) g 0 (flatK encR 2 d)) os).heap[b]? = _
  rw [h1]
  simp [putRow, mapBlock, Sort.ahead, Array.getElem?_modify, show g ≠ b by omega]

/-- The sort's call in Take: the rows in a descending order. -/
theorem takeSort (bn bc bf bo : Nat) (n f o : Int) (v : Value) (R : List (Int × Int)) (base : Nat) (w : World) (hC : Caught w bn bc bf bo n f o) (hb : base ≤ w.heap.size) (hR : R.length ≤ 1024)
    (hown : w.ownsRow base 52 2 v R.length (prs R)) (hbb : bn < base ∧ bf < base ∧ bo < base) (hcb : ∀ g, v.ownBlock = some g → bc ≠ g) :
    Calls Try.prog 29 #[v, .func (.func 30) #[] #[.pointer (some ⟨bn, 0, none⟩), .pointer (some ⟨bc, 0, none⟩)]] w fun e w' => e = .returned (.tuple #[]) ∧
      ∃ S : List (Int × Int), S.Perm R ∧ S.Pairwise (fun x y => min y.2 n ≤ min x.2 n) ∧ SlP w' v S ∧ Below base w w' := by
  rcases Nat.eq_zero_or_pos R.length with h0 | h0
  · have hR0 : R = [] := List.length_eq_zero_iff.1 h0
    subst hR0
    have hs : SlP w v [] := Sl.of_own hown (by simp)
    obtain ⟨A, cap, rfl, _, _⟩ := hs.form
    exact (stable0_calls 30 _ A cap w).mono fun e w' ⟨h1, h2⟩ => ⟨h1, [], List.Perm.refl _, List.Pairwise.nil, by rw [h2]; exact hs, by rw [h2]; exact Below.refl _ _⟩
  · rw [← prs_encR] at hown
    obtain ⟨g, cap, hv, hcap, hg, hgl, hH⟩ := own_sort encR_len hown h0
    subst hv
    have hcg := hcb g rfl
    have hL : CmpLays Try.prog 30 #[.pointer (some ⟨bn, 0, none⟩), .pointer (some ⟨bc, 0, none⟩)] encR 2 (cmpT n f o) g 0 R.toArray.size w := fun m os dk hs x y => by
      refine cmpT_calls x y bn bc bf bo n f o _ ?_
      have hc : ∀ b i : Nat, b < w.heap.size → b ≠ g → (sortWorldK encR 2 w g 0 m dk os).cell? ⟨b, i, none⟩ = w.cell? ⟨b, i, none⟩ := fun b i h1 h2 => World.cell?_of_block (w := w) (cell_sorted h1 h2)
      have hz := size_sortWorldK_c encR 2 w g 0 m dk os
      obtain ⟨s1, s2, s3, s4⟩ := hC.s
      exact ⟨(hc bn 0 s1 (by omega)).trans hC.n_, (hc bc 0 s2 hcg).trans hC.c_, (hc bf 0 s3 (by omega)).trans hC.f_, (hc bo 0 s4 (by omega)).trans hC.o_, ⟨by omega, by omega, by omega, by omega⟩, hC.bd⟩
    refine (stableR_calls 30 _ g 0 cap (cmpT n f o) R.toArray w hH hgl hL (swoT n f o) (enters_of Try.func30 (by kernel_rfl) rfl) (by simp; omega)).mono fun e w' h => ?_
    obtain ⟨h1, d, m, os, hp, hs, rfl⟩ := h
    have hds : d.size = R.toArray.size := hp.1
    obtain ⟨k1, k2, k3⟩ := sort_back (n := m) (os := os) (cap := cap) encR_len hH hgl hds hg (by rw [hds]; simpa using hcap) (by omega) hb
    have hperm : d.toList.Perm R := by
      have := hp.2.2
      rw [show (R.toArray.extract 0 R.toArray.size) = R.toArray by simp, show d.extract 0 R.toArray.size = d by rw [← hds]; simp] at this
      simpa using this
    rw [prs_encR] at k1
    refine ⟨h1, d.toList, hperm, ?_, k1, k2⟩
    rw [List.pairwise_iff_getElem]
    intro i j hi hj hij
    simp at hi hj
    have := hs i j (Nat.zero_le _) hij (by rw [← hds]; exact hj)
    rw [ltT, decide_eq_false_iff_not, getElem!_pos d i hi, getElem!_pos d j hj] at this
    simp only [Array.getElem_toList]
    omega
end Go.Proofs.Ytdjnadnmlcpaaaa
