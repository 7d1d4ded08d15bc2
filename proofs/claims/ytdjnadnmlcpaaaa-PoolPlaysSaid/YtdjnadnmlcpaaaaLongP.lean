import Derived.Test.YtdjnadnmlcpaaaaTakeP
/-! Plain facts on the law's longest: the fewest of the longest rows. -/
namespace Go.Proofs.Ytdjnadnmlcpaaaa
open Go.RowKit

/-- How many of D's first make n, m at most. -/
def few : List Int → Int → Nat → Option Nat
  | [], n, _ => if n ≤ 0 then some 0 else none
  | d :: D, n, m => if n ≤ 0 then some 0 else match m with
    | 0 => none
    | m + 1 => (few D (n - d) m).map (· + 1)

theorem few_min (N : Int) : ∀ (D : List Int) (n : Int) (m : Nat), n ≤ N → (∀ x ∈ D, 0 ≤ x) → few (D.map fun d => min d N) n m = few D n m
  | [], n, m, _, _ => rfl
  | d :: D, n, m, hn, hD => by
    have hd := hD d List.mem_cons_self
    have hD' := fun x hx => hD x (List.mem_cons_of_mem _ hx)
    simp only [List.map_cons, few]
    by_cases h : n ≤ 0
    · rw [if_pos h, if_pos h]
    · rw [if_neg h, if_neg h]
      cases m with
      | zero => rfl
      | succ m =>
        simp only
        by_cases h2 : d ≤ N
        · rw [Int.min_eq_left h2, few_min N D _ _ (by omega) hD']
        · rw [Int.min_eq_right (by omega), few_min N D _ _ (by omega) hD']
          have z : ∀ (D : List Int) (k : Int), k ≤ 0 → few D k m = some 0 := fun D k hk => by cases D <;> simp [few, hk]
          rw [z D _ (by omega), z D _ (by omega)]

theorem few_perm {D E : List Int} (n : Int) (m : Nat) (hn : 0 ≤ n) (hp : D.Perm E) (hD : D.Pairwise fun x y => y ≤ x) (hE : E.Pairwise fun x y => min y n ≤ min x n) (h0 : ∀ x ∈ D, 0 ≤ x) : few D n m = few E n m := by
  rw [← few_min n D n m (Int.le_refl _) h0, ← few_min n E n m (Int.le_refl _) fun x hx => h0 x (hp.mem_iff.2 hx)]
  have : (D.map fun d => min d n) = E.map fun d => min d n := by
    refine List.Perm.eq_of_pairwise (le := fun x y => y ≤ x) (fun a b _ _ h1 h2 => by omega) ?_ ?_ (hp.map _)
    · rw [List.pairwise_map]; exact hD.imp fun h => by omega
    · rw [List.pairwise_map]; exact hE
  rw [this]

theorem sumL_cons (x : Int × Int) (l : List (Int × Int)) : sumL (x :: l) = x.2 + sumL l := by simp [sumL]
theorem sumL_enough : ∀ (l : List (Int × Int)) (n : Int), 0 ≤ n → (∀ y ∈ l, 1 ≤ y.2) → sumL (enoughL l n) ≤ n ∧ 0 ≤ sumL (enoughL l n)
  | [], n, hn, _ => by simp [enoughL, sumL]; exact hn
  | y :: l, n, hn, hl => by
    have := hl y List.mem_cons_self
    rw [enoughL]
    split
    · simp [sumL]; omega
    · rw [sumL_cons]
      have := sumL_enough l (n - min y.2 n) (by omega) fun z hz => hl z (List.mem_cons_of_mem _ hz)
      simp only; omega

theorem few_enough : ∀ (l : List (Int × Int)) (n : Int) (m : Nat), 0 ≤ n → (∀ y ∈ l, 1 ≤ y.2) →
    few (l.map (·.2)) n m = if sumL (enoughL l n) < n ∨ m < (enoughL l n).length then none else some (enoughL l n).length
  | [], n, m, hn, _ => by
    simp only [List.map_nil, few, enoughL, sumL, List.sum_nil, List.length_nil]
    by_cases h : n ≤ 0
    · rw [if_pos h, if_neg (by omega)]
    · rw [if_neg h, if_pos (by omega)]
  | y :: l, n, m, hn, hl => by
    have hy := hl y List.mem_cons_self
    have hl' := fun z hz => hl z (List.mem_cons_of_mem _ hz)
    simp only [List.map_cons, few]
    by_cases h : n = 0
    · have e1 : enoughL (y :: l) n = [] := by rw [enoughL, if_pos h]
      rw [if_pos (by omega), e1, if_neg (by simp [sumL]; omega)]; rfl
    · have e1 : enoughL (y :: l) n = (y.1, min y.2 n) :: enoughL l (n - min y.2 n) := by rw [enoughL, if_neg h]
      rw [if_neg (by omega), e1, sumL_cons, List.length_cons]
      cases m with
      | zero => rw [if_pos (by right; omega)]
      | succ m =>
        have ih := few_enough l (n - min y.2 n) m (by omega) hl'
        have hs := sumL_enough l (n - min y.2 n) (by omega) hl'
        have hf : few (l.map (·.2)) (n - y.2) m = few (l.map (·.2)) (n - min y.2 n) m := by
          by_cases h2 : y.2 ≤ n
          · rw [Int.min_eq_left h2]
          · rw [Int.min_eq_right (by omega)]
            have z : ∀ (D : List Int) (k : Int), k ≤ 0 → few D k m = some 0 := fun D k hk => by cases D <;> simp [few, hk]
            rw [z _ _ (by omega), z _ _ (by omega)]
        simp only
        rw [hf, ih]
        by_cases hc : sumL (enoughL l (n - min y.2 n)) < n - min y.2 n ∨ m < (enoughL l (n - min y.2 n)).length
        · rw [if_pos hc, if_pos (by omega)]; rfl
        · rw [if_neg hc, if_neg (by omega)]; rfl

theorem set_perm (l : List Int) (b : Nat) (h : b < l.length) (x : Int) : (l[b] :: l.set b x).Perm (x :: l) := by
  induction l generalizing b with
  | nil => simp at h
  | cons y l ih =>
    cases b with
    | zero => simp; exact List.Perm.swap _ _ _
    | succ b =>
      simp only [List.getElem_cons_succ, List.set_cons_succ]
      have := ih b (by simpa using h)
      exact (List.Perm.swap _ _ _).trans ((List.Perm.cons y this).trans (List.Perm.swap _ _ _))

/-- What the law's greedy loop keeps: the rows left are the longest-first ones from k on, and k empty ones. -/
structure Greed (D : List Int) (n0 most : Int) (cs : List Int) (n : Int) (k : Nat) : Prop where
  perm : cs.Perm (D.drop k ++ List.replicate k 0)
  kl : k ≤ D.length
  fw : few D n0 most.toNat = (few (D.drop k) n (most.toNat - k)).map (· + k)
  desc : D.Pairwise fun x y => y ≤ x
  pos : ∀ x ∈ D, 1 ≤ x ∧ x ≤ 4096
  km : (k : Int) ≤ most

theorem Greed.zero {D : List Int} {n0 most : Int} {cs : List Int} {n : Int} {k : Nat} (h : Greed D n0 most cs n k) (hn : n ≤ 0) : few D n0 most.toNat = some k := by
  rw [h.fw]
  have : ∀ (D : List Int) m, few D n m = some 0 := fun D m => by cases D <;> simp [few, hn]
  rw [this]; simp

/-- The greatest of the rows left. -/
theorem Greed.max {D : List Int} {n0 most : Int} {cs : List Int} {n : Int} {k b : Nat} (h : Greed D n0 most cs n k) (hb : b < cs.length) (hm : ∀ j (hj : j < cs.length), cs[j] ≤ cs[b]) :
    (k < D.length ∧ cs[b] = D.getD k 0) ∨ (k = D.length ∧ cs[b] = 0) := by
  have h0 := h.kl
  rcases Nat.lt_or_ge k D.length with hk | hk
  · left
    refine ⟨hk, ?_⟩
    have hg : D.getD k 0 = D[k] := by rw [List.getD_eq_getElem?_getD, List.getElem?_eq_getElem hk, Option.getD_some]
    rw [hg]
    have hdk : D.drop k = D[k] :: D.drop (k + 1) := List.drop_eq_getElem_cons hk
    have m1 : D[k] ∈ cs := h.perm.mem_iff.2 (by rw [hdk]; exact List.mem_append_left _ List.mem_cons_self)
    obtain ⟨j, hj, hjj⟩ := List.getElem_of_mem m1
    have l1 := hm j hj
    have m2 : cs[b] ∈ D.drop k ++ List.replicate k 0 := h.perm.mem_iff.1 (List.getElem_mem hb)
    have l2 : cs[b] ≤ D[k] := by
      rcases List.mem_append.1 m2 with h2 | h2
      · obtain ⟨i, hi, hii⟩ := List.getElem_of_mem h2
        rw [List.getElem_drop] at hii
        rw [← hii]
        rcases Nat.eq_zero_or_pos i with h3 | h3
        · subst h3; simp
        · have hi' : k + i < D.length := by rw [List.length_drop] at hi; omega
          exact (List.pairwise_iff_getElem.1 h.desc) k (k + i) hk hi' (by omega)
      · have := (List.mem_replicate.1 h2).2
        have := (h.pos D[k] (List.getElem_mem hk)).1
        omega
    omega
  · right
    have : k = D.length := by omega
    refine ⟨this, ?_⟩
    have m2 : cs[b] ∈ D.drop k ++ List.replicate k 0 := h.perm.mem_iff.1 (List.getElem_mem hb)
    rw [List.drop_eq_nil_of_le hk, List.nil_append] at m2
    exact (List.mem_replicate.1 m2).2

theorem Greed.none {D : List Int} {n0 most : Int} {cs : List Int} {n : Int} {k : Nat} (h : Greed D n0 most cs n k) (hn : 0 < n) (hk : k = D.length ∨ (k : Int) = most) : few D n0 most.toNat = none := by
  rw [h.fw]
  rcases hk with hk | hk
  · rw [List.drop_eq_nil_of_le (by omega)]
    have : ¬ n ≤ 0 := by omega
    simp [few, this]
  · have e : most.toNat - k = 0 := by omega
    rw [e]
    cases D.drop k <;> simp [few] <;> omega

theorem Greed.step {D : List Int} {n0 most : Int} {cs : List Int} {n : Int} {k b : Nat} (h : Greed D n0 most cs n k) (hn : 0 < n) (hb : b < cs.length) (hk : k < D.length) (he : cs[b] = D.getD k 0) (hkm : (k : Int) ≠ most) : Greed D n0 most (cs.set b 0) (n - D.getD k 0) (k + 1) := by
  have hg : D.getD k 0 = D[k] := by rw [List.getD_eq_getElem?_getD, List.getElem?_eq_getElem hk, Option.getD_some]
  have hdk : D.drop k = D[k] :: D.drop (k + 1) := List.drop_eq_getElem_cons hk
  have hkm' := h.km
  refine ⟨?_, by omega, ?_, h.desc, h.pos, by omega⟩
  · have p1 := set_perm cs b hb 0
    rw [he, hg] at p1
    have p2 : (D[k] :: cs.set b 0).Perm (D[k] :: (D.drop (k + 1) ++ List.replicate (k + 1) 0)) := p1.trans (by
      refine (List.Perm.cons 0 h.perm).trans ?_
      rw [hdk, List.replicate_succ]
      refine (List.Perm.swap _ _ _).trans (List.Perm.cons _ ?_)
      exact (List.perm_middle).symm)
    exact p2.cons_inv
  · rw [h.fw, hdk, hg]
    have e : most.toNat - k = (most.toNat - (k + 1)) + 1 := by omega
    rw [e]
    simp only [few]
    rw [if_neg (by omega), Option.map_map]
    congr 1
    funext x
    simp only [Function.comp_apply]
    omega

theorem Greed.start (D cs : List Int) (n0 most : Int) (hp : cs.Perm D) (hd : D.Pairwise fun x y => y ≤ x) (hb : ∀ x ∈ D, 1 ≤ x ∧ x ≤ 4096) (hm : 0 ≤ most) : Greed D n0 most cs n0 0 :=
  ⟨by simpa using hp, Nat.zero_le _, by simp, hd, hb, by simpa using hm⟩

/-- How far the law has read the rows: all before i, r clear bits last. -/
structure Rd (bs : List Int) (f0 e : Int) (R acc : List Int) (r i : Int) : Prop where
  st : ∃ F, (e - (i - r)).toNat + 1 ≤ F ∧ R = acc ++ (rowsGo bs e F (i - r)).map (·.2)
  clear : ∀ k, i - r ≤ k → k < i → hasB bs k = false
  o : f0 ≤ i - r ∧ 0 ≤ r ∧ i ≤ e

theorem nextB_skip {bs : List Int} {i e : Int} (ht : thereB bs.length i = true) (h : hasB bs i = true) (hie : i < e) : nextB bs false i e = nextB bs false (i + 1) e := by
  unfold nextB
  rw [show (e - i).toNat = (e - (i + 1)).toNat + 1 by omega, nextGo, if_pos ht, h]
  rfl
theorem nextB_past {bs : List Int} {yes : Bool} {i e : Int} (h : e ≤ i) : nextB bs yes i e = none := by
  unfold nextB
  rw [show (e - i).toNat = 0 by omega]; rfl
theorem nextB_here {bs : List Int} {a e : Int} (ht : thereB bs.length a = true) (h : hasB bs a = false) (hae : a < e) : nextB bs false a e = some a := by
  unfold nextB
  rw [show (e - a).toNat = (e - (a + 1)).toNat + 1 by omega, nextGo, if_pos ht, h]
  rfl

theorem rowsGo_past {bs : List Int} {e i : Int} (h : e ≤ i) (F : Nat) : rowsGo bs e F i = [] := by
  cases F with
  | zero => rfl
  | succ F => rw [rowsGo, nextB_past h]

/-- Where a run ends. -/
theorem run_end {bs : List Int} {a i e : Int} (ht : ∀ k, a ≤ k → k < e → thereB bs.length k = true) (hai : a < i) (hie : i ≤ e) (hc : ∀ k, a ≤ k → k < i → hasB bs k = false) (hs : i < e → hasB bs i = true) : (nextB bs true a e).getD e = i := by
  cases hn : nextB bs true a e with
  | none =>
    rw [Option.getD_none]
    rcases Int.lt_or_le i e with h | h
    · have := nextB_none ht hn i (by omega) h
      rw [hs h] at this; cases this
    · omega
  | some j =>
    obtain ⟨q1, q2, q3, q4⟩ := nextB_some ht hn
    rw [Option.getD_some]
    rcases Int.lt_or_le j i with h | h
    · rw [hc j q1 h] at q3; cases q3
    · rcases Int.lt_or_le i j with h2 | h2
      · have := q4 i (by omega) h2
        rw [hs (by omega)] at this; cases this
      · omega

theorem Rd.more {bs : List Int} {f0 e : Int} {R acc : List Int} {r i : Int} (h : Rd bs f0 e R acc r i) (hie : i < e) (hc : hasB bs i = false) : Rd bs f0 e R acc (r + 1) (i + 1) := by
  obtain ⟨⟨F, h1, h2⟩, h3, h4⟩ := h
  have : i + 1 - (r + 1) = i - r := by omega
  refine ⟨⟨F, by rw [this]; exact h1, by rw [this]; exact h2⟩, fun k hk hk2 => ?_, by omega⟩
  by_cases hki : k = i
  · rw [hki]; exact hc
  · exact h3 k (by omega) (by omega)

/-- At a set bit, or at the end: the run is told. -/
theorem Rd.told {bs : List Int} {f0 e : Int} {R acc : List Int} {r i : Int} (ht : ∀ k, f0 ≤ k → k < e → thereB bs.length k = true) (h : Rd bs f0 e R acc r i) (hs : i < e → hasB bs i = true) :
    ∃ F, (e - i).toNat + 1 ≤ F ∧ R = (if 0 < r then acc ++ [r] else acc) ++ (rowsGo bs e F (i + 1)).map (·.2) := by
  obtain ⟨⟨F, h1, h2⟩, h3, h4⟩ := h
  have skip : ∀ F', rowsGo bs e F' i = rowsGo bs e F' (i + 1) := fun F' => by
    rcases Int.lt_or_le i e with h | h
    · cases F' with
      | zero => rfl
      | succ F' => rw [rowsGo, rowsGo, nextB_skip (ht i (by omega) h) (hs h) h]
    · rw [rowsGo_past h, rowsGo_past (by omega)]
  by_cases hr : 0 < r
  · obtain ⟨F, rfl⟩ : ∃ F', F = F' + 1 := ⟨F - 1, by omega⟩
    have hn := nextB_here (bs := bs) (a := i - r) (e := e) (ht _ (by omega) (by omega)) (h3 _ (Int.le_refl _) (by omega)) (by omega)
    have he := run_end (bs := bs) (a := i - r) (i := i) (e := e) (fun k hk hk2 => ht k (by omega) hk2) (by omega) (by omega) h3 hs
    refine ⟨F, by omega, ?_⟩
    rw [if_pos hr, h2, rowsGo, hn]
    simp only [he, List.map_cons]
    rw [skip F, show i - (i - r) = r by omega]
    simp
  · have : r = 0 := by omega
    subst this
    refine ⟨F, by rw [show i - 0 = i by omega] at h1; exact h1, ?_⟩
    rw [if_neg hr, h2, show i - 0 = i by omega, skip F]

theorem Rd.next {bs : List Int} {f0 e : Int} {R acc : List Int} {r i : Int} (ht : ∀ k, f0 ≤ k → k < e → thereB bs.length k = true) (h : Rd bs f0 e R acc r i) (hie : i < e) (hs : hasB bs i = true) : Rd bs f0 e R (if 0 < r then acc ++ [r] else acc) 0 (i + 1) := by
  have h4 := h.o
  obtain ⟨F, h1, h2⟩ := h.told ht (fun _ => hs)
  exact ⟨⟨F, by omega, by rw [h2, show i + 1 - 0 = i + 1 by omega]⟩, fun k h5 h6 => by omega, by omega⟩

theorem Rd.last {bs : List Int} {f0 e : Int} {R acc : List Int} {r i : Int} (ht : ∀ k, f0 ≤ k → k < e → thereB bs.length k = true) (h : Rd bs f0 e R acc r i) (hie : i = e) : R = if 0 < r then acc ++ [r] else acc := by
  obtain ⟨F, h1, h2⟩ := h.told ht (fun h => by omega)
  rw [h2, rowsGo_past (by omega)]
  simp
end Go.Proofs.Ytdjnadnmlcpaaaa
