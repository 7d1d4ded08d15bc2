/- Plain facts on exchanges of ranges, rotations and merges of sorted rows (Go's stable sort). No program is named here. -/
import Derived.Sort.LotA
namespace Go.Proofs.Ytdjnadnmlcpaaaa
open Go.Sort
section
variable {α : Type} [Inhabited α]

/-- The first n places from a on exchanged with those from b on, one by one. -/
def swR (d : Array α) (a b : Nat) : Nat → Array α
  | 0 => d
  | i + 1 => swp (swR d a b i) (a + i) (b + i)

theorem swR_size (d : Array α) (a b n : Nat) : (swR d a b n).size = d.size := by
  induction n with
  | zero => rfl
  | succ n ih => rw [swR, swp_size, ih]

theorem swR_get (d : Array α) (a b n : Nat) (hab : a + n ≤ b) (hb : b + n ≤ d.size) (k : Nat) :
    (swR d a b n)[k]! = if a ≤ k ∧ k < a + n then d[k + b - a]! else if b ≤ k ∧ k < b + n then d[k + a - b]! else d[k]! := by
  induction n generalizing k with
  | zero => rw [if_neg (by omega), if_neg (by omega)]; rfl
  | succ n ih =>
    rw [swR, swp_get _ (by rw [swR_size]; omega) (by rw [swR_size]; omega)]
    have ih' := fun k => ih (by omega) (by omega) k
    by_cases h1 : k = b + n
    · subst h1
      rw [if_pos rfl, ih', if_neg (by omega), if_neg (by omega), if_neg (by omega), if_pos (by omega)]
      congr 1; omega
    · rw [if_neg h1]
      by_cases h2 : k = a + n
      · subst h2
        rw [if_pos rfl, ih', if_neg (by omega), if_neg (by omega), if_pos (by omega)]
        congr 1; omega
      · rw [if_neg h2, ih']
        by_cases h3 : a ≤ k ∧ k < a + n
        · rw [if_pos h3, if_pos (by omega)]
        · rw [if_neg h3, if_neg (show ¬ (a ≤ k ∧ k < a + (n + 1)) by omega)]
          by_cases h4 : b ≤ k ∧ k < b + n
          · rw [if_pos h4, if_pos (by omega)]
          · rw [if_neg h4, if_neg (by omega)]

theorem swR_perm (d : Array α) (a b n lo hi : Nat) (h1 : lo ≤ a) (h2 : a ≤ b) (h3 : b + n ≤ hi) (h4 : hi ≤ d.size) : PermIn lo hi d (swR d a b n) := by
  induction n with
  | zero => exact permIn_refl _ _ _
  | succ n ih =>
    exact permIn_trans _ _ _ _ _ (ih (by omega)) (swp_permIn _ _ _ _ _ (by omega) (by omega) (by omega) (by omega) (by rw [swR_size]; exact h4))

end

section
variable {α : Type}
/-- [a, m) and [m, b) exchanged as wholes, as a function of places. -/
def rotF (f : Nat → α) (a m b : Nat) (k : Nat) : α :=
  if a ≤ k ∧ k < a + (b - m) then f (k + (m - a)) else if a + (b - m) ≤ k ∧ k < b then f (k - (b - m)) else f k

theorem rotF_left (f g : Nat → α) (m i j : Nat) (hi : i ≤ m) (hij : j < i)
    (hg : ∀ k, g k = if m - i ≤ k ∧ k < m - i + j then f (k + m - (m - i)) else if m ≤ k ∧ k < m + j then f (k + (m - i) - m) else f k) (k : Nat) :
    rotF g (m - (i - j)) m (m + j) k = rotF f (m - i) m (m + j) k := by
  unfold rotF
  by_cases h1 : m - i ≤ k ∧ k < m - i + j
  · rw [if_neg (by omega), if_neg (by omega), hg, if_pos h1, if_pos (by omega)]
    congr 1; omega
  · by_cases h2 : m - i + j ≤ k ∧ k < m
    · by_cases h3 : k < m - (i - j) + j
      · rw [if_pos (by omega), hg, if_neg (by omega), if_neg (show ¬ (m - i ≤ k ∧ k < m - i + (m + j - m)) by omega), if_pos (show m - i + (m + j - m) ≤ k ∧ k < m + j by omega)]
        by_cases h4 : m ≤ k + (m - (m - (i - j))) ∧ k + (m - (m - (i - j))) < m + j
        · rw [if_pos h4]; congr 1; omega
        · rw [if_neg h4]; congr 1; omega
      · rw [if_neg (by omega), if_pos (by omega), hg, if_neg (by omega), if_neg (by omega), if_neg (by omega), if_pos (by omega)]
    · by_cases h5 : m ≤ k ∧ k < m + j
      · rw [if_neg (show ¬ (m - i ≤ k ∧ k < m - i + (m + j - m)) by omega), if_pos (show m - i + (m + j - m) ≤ k ∧ k < m + j by omega)]
        by_cases h3 : k < m - (i - j) + j
        · rw [if_pos (by omega), hg, if_neg (by omega)]
          by_cases h4 : m ≤ k + (m - (m - (i - j))) ∧ k + (m - (m - (i - j))) < m + j
          · rw [if_pos h4]; congr 1; omega
          · omega
        · rw [if_neg (by omega), if_pos (by omega), hg, if_neg (by omega), if_neg (by omega)]
      · rw [if_neg (by omega), if_neg (by omega), hg, if_neg (by omega), if_neg (by omega), if_neg (by omega), if_neg (by omega)]

theorem rotF_right (f g : Nat → α) (m i j : Nat) (hi : i ≤ m) (hij : i < j)
    (hg : ∀ k, g k = if m - i ≤ k ∧ k < m - i + i then f (k + (m + j - i) - (m - i)) else if m + j - i ≤ k ∧ k < m + j - i + i then f (k + (m - i) - (m + j - i)) else f k) (k : Nat) :
    rotF g (m - i) m (m + (j - i)) k = rotF f (m - i) m (m + j) k := by
  unfold rotF
  by_cases h1 : m + j - i ≤ k ∧ k < m + j
  · rw [if_neg (by omega), if_neg (by omega), hg, if_neg (by omega), if_pos (by omega)]
    by_cases h2 : k < m - i + (m + j - m)
    · omega
    · rw [if_neg (by omega), if_pos (by omega)]; congr 1; omega
  · by_cases h2 : m - i ≤ k ∧ k < m + j - i
    · rw [if_pos (show m - i ≤ k ∧ k < m - i + (m + j - m) by omega)]
      by_cases h3 : k < m - i + (m + (j - i) - m)
      · rw [if_pos (by omega), hg, if_neg (by omega), if_neg (by omega)]
      · rw [if_neg (by omega), if_pos (by omega), hg, if_pos (by omega)]; congr 1; omega
    · rw [if_neg (by omega), if_neg (by omega), hg, if_neg (by omega), if_neg (by omega), if_neg (by omega), if_neg (by omega)]

theorem rotF_same (f g : Nat → α) (m i : Nat) (hi : i ≤ m)
    (hg : ∀ k, g k = if m - i ≤ k ∧ k < m - i + i then f (k + m - (m - i)) else if m ≤ k ∧ k < m + i then f (k + (m - i) - m) else f k) (k : Nat) :
    g k = rotF f (m - i) m (m + i) k := by
  unfold rotF
  rw [hg]
  by_cases h1 : m - i ≤ k ∧ k < m - i + i
  · rw [if_pos h1, if_pos (by omega)]; congr 1; omega
  · rw [if_neg h1, if_neg (show ¬ (m - i ≤ k ∧ k < m - i + (m + i - m)) by omega)]
    by_cases h2 : m ≤ k ∧ k < m + i
    · rw [if_pos h2, if_pos (by omega)]; congr 1; omega
    · rw [if_neg h2, if_neg (by omega)]

theorem rotF_congr (f g : Nat → α) (a m b : Nat) (h : ∀ k, f k = g k) (k : Nat) : rotF f a m b k = rotF g a m b k := by
  have : f = g := funext h
  rw [this]

theorem rotF_idL (f : Nat → α) (m b k : Nat) : rotF f m m b k = f k := by
  unfold rotF
  by_cases h : m ≤ k ∧ k < m + (b - m)
  · rw [if_pos h]; congr 1; omega
  · rw [if_neg h, if_neg (by omega)]

theorem rotF_idR (f : Nat → α) (a m k : Nat) (h : a ≤ m) : rotF f a m m k = f k := by
  unfold rotF
  rw [if_neg (by omega)]
  by_cases h : a + (m - m) ≤ k ∧ k < m
  · rw [if_pos h]; congr 1; omega
  · rw [if_neg h]
end

section
variable {α : Type} [Inhabited α]
theorem bubR {d dk : Array α} {a k : Nat} (h : ∀ x, dk[x]! = rotF (fun x => d[x]!) a (a + 1) (k + 1) x) (hak : a ≤ k) (hk : k + 1 < dk.size) (x : Nat) :
    (swp dk k (k + 1))[x]! = rotF (fun x => d[x]!) a (a + 1) (k + 1 + 1) x := by
  rw [swp_get _ (by omega) hk]
  simp only [h]
  unfold rotF
  by_cases h1 : x = k + 1
  · subst h1
    rw [if_pos rfl]
    by_cases h2 : a = k
    · subst h2
      rw [if_neg (by omega), if_pos (by omega), if_neg (by omega), if_pos (by omega)]; congr 1; omega
    · rw [if_neg (by omega), if_pos (by omega), if_neg (by omega), if_pos (by omega)]; congr 1; omega
  · rw [if_neg h1]
    by_cases h2 : x = k
    · subst h2
      rw [if_pos rfl, if_neg (by omega), if_neg (by omega), if_pos (by omega)]; congr 1; omega
    · rw [if_neg h2]
      by_cases h3 : a ≤ x ∧ x < k
      · rw [if_pos (by omega), if_pos (by omega)]
      · rw [if_neg (by omega), if_neg (by omega), if_neg (by omega), if_neg (by omega)]

theorem bubL {d dk : Array α} {m k : Nat} (h : ∀ x, dk[x]! = rotF (fun x => d[x]!) (k + 1) m (m + 1) x) (hkm : k + 1 ≤ m) (hk : m < dk.size) (x : Nat) :
    (swp dk (k + 1) k)[x]! = rotF (fun x => d[x]!) k m (m + 1) x := by
  rw [swp_get _ (by omega) (by omega)]
  simp only [h]
  unfold rotF
  by_cases h1 : x = k
  · subst h1
    rw [if_pos rfl, if_pos (by omega), if_pos (by omega)]; congr 1 <;> omega
  · rw [if_neg h1]
    by_cases h2 : x = k + 1
    · subst h2
      rw [if_pos rfl, if_neg (by omega), if_neg (by omega), if_neg (by omega), if_pos (by omega)]; congr 1; omega
    · rw [if_neg h2]
      by_cases h3 : k + 1 < x ∧ x ≤ m
      · rw [if_neg (by omega), if_pos (by omega), if_neg (by omega), if_pos (by omega)]
      · rw [if_neg (by omega), if_neg (by omega), if_neg (by omega), if_neg (by omega)]

variable {lt : α → α → Bool}

theorem glueS {d : Array α} {a c b : Nat} (h1 : SortedIn lt a c d) (h2 : SortedIn lt c b d) (h : ∀ i j, a ≤ i → i < c → c ≤ j → j < b → lt d[j]! d[i]! = false) : SortedIn lt a b d := by
  intro i j hi hij hj
  by_cases x : j < c
  · exact h1 i j hi hij x
  · by_cases y : i < c
    · exact h i j hi y (by omega) hj
    · exact h2 i j (by omega) hij hj

theorem srtCut {d : Array α} {a b a' b' : Nat} (h : SortedIn lt a b d) (ha : a ≤ a') (hb : b' ≤ b) : SortedIn lt a' b' d := fun i j h1 h2 h3 => h i j (by omega) h2 (by omega)

theorem srtSame {d d' : Array α} {a b : Nat} (h : SortedIn lt a b d) (e : ∀ x, a ≤ x → x < b → d'[x]! = d[x]!) : SortedIn lt a b d' := fun i j h1 h2 h3 => by
  rw [e i h1 (by omega), e j (by omega) h3]; exact h i j h1 h2 h3

theorem srtLe (hS : SWO lt) {d : Array α} {a b : Nat} (h : SortedIn lt a b d) {i j : Nat} (h1 : a ≤ i) (h2 : i ≤ j) (h3 : j < b) : lt d[j]! d[i]! = false := by
  rcases Nat.lt_or_ge i j with x | x
  · exact h i j h1 x h3
  · have : i = j := by omega
    subst this; exact hS.irrefl _

structure Parts (lt : α → α → Bool) (a s m e b : Nat) (d : Array α) : Prop where
  o : a ≤ s ∧ s ≤ m ∧ m ≤ e ∧ e ≤ b
  l : SortedIn lt a m d
  r : SortedIn lt m b d

theorem Parts.rot {d d' : Array α} {a s m e b : Nat} (hS : SWO lt) (h : Parts lt a s m e b d) (hr : ∀ k, d'[k]! = rotF (fun x => d[x]!) s m e k) :
    (∀ x, a ≤ x → x < s → d'[x]! = d[x]!) ∧ (∀ x, s ≤ x → x < s + (e - m) → d'[x]! = d[x + (m - s)]!) ∧ (∀ x, s + (e - m) ≤ x → x < e → d'[x]! = d[x - (e - m)]!) ∧ (∀ x, e ≤ x → d'[x]! = d[x]!) ∧
    SortedIn lt a s d' ∧ SortedIn lt s (s + (e - m)) d' ∧ SortedIn lt (s + (e - m)) e d' ∧ SortedIn lt e b d' := by
  obtain ⟨⟨o1, o2, o3, o4⟩, hl, hrr⟩ := h
  have e1 : ∀ x, a ≤ x → x < s → d'[x]! = d[x]! := fun x _ h2 => by rw [hr]; unfold rotF; rw [if_neg (by omega), if_neg (by omega)]
  have e2 : ∀ x, s ≤ x → x < s + (e - m) → d'[x]! = d[x + (m - s)]! := fun x h1 h2 => by rw [hr]; unfold rotF; rw [if_pos ⟨h1, h2⟩]
  have e3 : ∀ x, s + (e - m) ≤ x → x < e → d'[x]! = d[x - (e - m)]! := fun x h1 h2 => by rw [hr]; unfold rotF; rw [if_neg (by omega), if_pos ⟨h1, h2⟩]
  have e4 : ∀ x, e ≤ x → d'[x]! = d[x]! := fun x h1 => by rw [hr]; unfold rotF; rw [if_neg (by omega), if_neg (by omega)]
  refine ⟨e1, e2, e3, e4, srtSame (srtCut hl (Nat.le_refl _) o2) e1, fun i j h1 h2 h3 => ?_, fun i j h1 h2 h3 => ?_, srtSame (srtCut hrr o3 (Nat.le_refl _)) fun x h _ => e4 x h⟩
  · rw [e2 i h1 (by omega), e2 j (by omega) h3]; exact hrr _ _ (by omega) (by omega) (by omega)
  · rw [e3 i h1 (by omega), e3 j (by omega) h3]; exact hl _ _ (by omega) (by omega) (by omega)

/-- Behind the rotation nothing of the right half comes before anything of the left. -/
theorem Parts.cross {d d' : Array α} {a s m e b : Nat} (hS : SWO lt) (h : Parts lt a s m e b d) (hr : ∀ k, d'[k]! = rotF (fun x => d[x]!) s m e k)
    (c1 : s = a ∨ e = b ∨ lt d[e]! d[s - 1]! = false) (c2 : s = m ∨ e = m ∨ lt d[s]! d[e - 1]! = false) (i j : Nat) (hi : a ≤ i) (hi' : i < s + (e - m)) (hj : s + (e - m) ≤ j) (hj' : j < b) : lt d'[j]! d'[i]! = false := by
  obtain ⟨e1, e2, e3, e4, -⟩ := h.rot hS hr
  obtain ⟨⟨o1, o2, o3, o4⟩, hl, hrr⟩ := h
  have tr := hS.ntrans
  by_cases x : i < s
  · rw [e1 i hi x]
    by_cases y : j < e
    · rw [e3 j hj y]; exact hl _ _ hi (by omega) (by omega)
    · rw [e4 j (by omega)]
      have c : lt d[e]! d[s - 1]! = false := by rcases c1 with c | c | c <;> first | omega | exact c
      exact tr _ _ _ (tr _ _ _ (srtLe hS hrr o3 (by omega) hj') c) (srtLe hS hl hi (by omega) (by omega))
  · rw [e2 i (by omega) hi']
    by_cases y : j < e
    · rw [e3 j hj y]
      have c : lt d[s]! d[e - 1]! = false := by rcases c2 with c | c | c <;> first | omega | exact c
      exact tr _ _ _ (tr _ _ _ (srtLe hS hl (by omega) (by omega) (by omega)) c) (srtLe hS hrr (by omega) (by omega) (by omega))
    · rw [e4 j (by omega)]; exact hrr _ _ (by omega) (by omega) hj'

/-- One element laid into the other row: sorted as a whole. -/
theorem Parts.one {d d' : Array α} {a s m e b : Nat} (hS : SWO lt) (h : Parts lt a s m e b d) (hr : ∀ k, d'[k]! = rotF (fun x => d[x]!) s m e k)
    (c0 : s = a ∨ e = b) (c2 : s = m ∨ e = m ∨ lt d[s]! d[e - 1]! = false) (c3 : s = m ∨ e = b ∨ lt d[e]! d[m - 1]! = false) (c4 : s = a ∨ e = m ∨ lt d[m]! d[s - 1]! = false) : SortedIn lt a b d' := by
  obtain ⟨e1, e2, e3, e4, s1, s2, s3, s4⟩ := h.rot hS hr
  have hc := h.cross hS hr (by rcases c0 with c | c <;> simp [c]) c2
  obtain ⟨⟨o1, o2, o3, o4⟩, hl, hrr⟩ := h
  have tr := hS.ntrans
  refine glueS (c := s + (e - m)) (glueS s1 s2 fun i j h1 h2 h3 h4 => ?_) (glueS s3 s4 fun i j h1 h2 h3 h4 => ?_) hc
  · rw [e1 i h1 h2, e2 j h3 h4]
    have c : lt d[m]! d[s - 1]! = false := by rcases c4 with c | c | c <;> first | omega | exact c
    exact tr _ _ _ (tr _ _ _ (srtLe hS hrr (Nat.le_refl _) (by omega) (by omega)) c) (srtLe hS hl h1 (by omega) (by omega))
  · rw [e3 i h1 h2, e4 j h3]
    have c : lt d[e]! d[m - 1]! = false := by rcases c3 with c | c | c <;> first | omega | exact c
    exact tr _ _ _ (tr _ _ _ (srtLe hS hrr o3 (by omega) h4) c) (srtLe hS hl (by omega) (by omega) (by omega))

/-- The two halves sorted each by itself: sorted as a whole. -/
theorem crossDone {d1 d2 d3 : Array α} {a c b : Nat} (hb : b ≤ d1.size) (h2 : d2.size = d1.size) (hab : a ≤ c ∧ c ≤ b) (p1 : PermIn a c d1 d2) (p2 : PermIn c b d2 d3) (s1 : SortedIn lt a c d2) (s2 : SortedIn lt c b d3)
    (hc : ∀ i j, a ≤ i → i < c → c ≤ j → j < b → lt d1[j]! d1[i]! = false) : PermIn a b d1 d3 ∧ SortedIn lt a b d3 := by
  refine ⟨permIn_trans _ _ _ _ _ (permIn_mono _ _ _ _ _ _ (Nat.le_refl _) hab.2 hb p1) (permIn_mono _ _ _ _ _ _ hab.1 (Nat.le_refl _) (by omega) p2), glueS (srtSame s1 fun x h1 h2 => p2.2.1 x (Or.inl h2)) s2 fun i j h1 h2' h3 h4 => ?_⟩
  have A : ∀ j, c ≤ j → j < b → ∀ i, a ≤ i → i < c → lt d1[j]! d2[i]! = false := fun j h3 h4 => permIn_all _ _ a c (fun x => lt d1[j]! x = false) (by omega) p1 fun i h1 h2 => hc i j h1 h2 h3 h4
  have B : ∀ i, a ≤ i → i < c → ∀ j, c ≤ j → j < b → lt d3[j]! d2[i]! = false := fun i h1 h2' => permIn_all _ _ c b (fun x => lt x d2[i]! = false) (by omega) p2 fun j h3 h4 => by
    rw [p1.2.1 j (Or.inr h3)]; exact A j h3 h4 i h1 h2'
  have := p2.2.1 i (Or.inl h2')
  rw [this]
  exact B i h1 h2' j h3 h4
end
end Go.Proofs.Ytdjnadnmlcpaaaa
