import Derived.Test.YtdjnadnmlcpaaaaLongP
import Derived.Test.YtdjnadnmlcpaaaaGive
/-! Plain facts for the law PoolPlays: bits under marks, the told runs, counting. -/
namespace Go.Proofs.Ytdjnadnmlcpaaaa
open Go.RowKit

theorem hasB_out {bs : List Int} {i : Int} (h : thereB bs.length i = false) : hasB bs i = false := by unfold hasB; rw [h]; rfl

theorem words_markOne {bs : List Int} (h : Words bs) (yes : Bool) (a : Int) (n : Nat) : Words (markOne bs yes a n) := by
  induction n with
  | zero => exact h
  | succ n ih => exact words_setOne ih _ _
theorem words_markL {bs : List Int} (h : Words bs) (yes : Bool) (l : List (Int × Int)) : Words (markL bs yes l) := by
  unfold markL
  induction l generalizing bs with
  | nil => exact h
  | cons x l ih => exact ih (words_markOne h _ _ _)

theorem hasB_markOne {bs : List Int} (h : Words bs) (yes : Bool) (a : Int) (n : Nat) (ht : ∀ k : Nat, k < n → thereB bs.length (a + k) = true) (j : Int) :
    hasB (markOne bs yes a n) j = if a ≤ j ∧ j < a + n then yes else hasB bs j := by
  induction n with
  | zero => rw [if_neg (by omega)]; rfl
  | succ n ih =>
    rw [markOne, hasB_setOne (words_markOne h _ _ _) yes (a + n) (by rw [markOne_length]; exact ht n (by omega)), ih fun k hk => ht k (by omega)]
    by_cases h1 : j = a + n
    · rw [if_pos h1, if_pos (by omega)]
    · rw [if_neg h1]
      by_cases h2 : a ≤ j ∧ j < a + n
      · rw [if_pos h2, if_pos (by omega)]
      · rw [if_neg h2, if_neg (by omega)]

/-- j lies in one of the runs. -/
def inL (l : List (Int × Int)) (j : Int) : Prop := ∃ r ∈ l, r.1 ≤ j ∧ j < r.1 + r.2

theorem hasB_markL {bs : List Int} (h : Words bs) (yes : Bool) (l : List (Int × Int)) (ht : ∀ r ∈ l, ∀ k, r.1 ≤ k → k < r.1 + r.2 → thereB bs.length k = true) (j : Int) :
    (inL l j → hasB (markL bs yes l) j = yes) ∧ (¬ inL l j → hasB (markL bs yes l) j = hasB bs j) := by
  induction l generalizing bs with
  | nil => exact ⟨fun ⟨r, hr, _⟩ => by simp at hr, fun _ => rfl⟩
  | cons x l ih =>
    have hm : markL bs yes (x :: l) = markL (markOne bs yes x.1 x.2.toNat) yes l := rfl
    have h1 := hasB_markOne h yes x.1 x.2.toNat (fun k hk => ht x List.mem_cons_self _ (by omega) (by omega)) j
    obtain ⟨i1, i2⟩ := ih (words_markOne h yes x.1 x.2.toNat) (fun r hr k h2 h3 => by rw [markOne_length]; exact ht r (List.mem_cons_of_mem _ hr) k h2 h3)
    rw [hm]
    by_cases hl : inL l j
    · exact ⟨fun _ => i1 hl, fun hn => absurd (by obtain ⟨r, hr, h2⟩ := hl; exact ⟨r, List.mem_cons_of_mem _ hr, h2⟩) hn⟩
    · rw [i2 hl, h1]
      refine ⟨fun ⟨r, hr, h2⟩ => ?_, fun hn => ?_⟩
      · rcases List.mem_cons.1 hr with rfl | hr
        · rw [if_pos (by omega)]
        · exact absurd ⟨r, hr, h2⟩ hl
      · rw [if_neg fun h2 => hn ⟨x, List.mem_cons_self, by omega, by omega⟩]

/-! ### counting -/
/-- How many of the n bits from a on are clear. -/
def clr (bs : List Int) (a : Int) : Nat → Int
  | 0 => 0
  | n + 1 => clr bs a n + (if hasB bs (a + n) then 0 else 1)

theorem clr_congr {bs cs : List Int} {a : Int} : ∀ (n : Nat), (∀ k : Nat, k < n → hasB bs (a + k) = hasB cs (a + k)) → clr bs a n = clr cs a n
  | 0, _ => rfl
  | n + 1, h => by rw [clr, clr, clr_congr n fun k hk => h k (by omega), h n (by omega)]

theorem clr_add (bs : List Int) (a : Int) (m : Nat) : ∀ n : Nat, clr bs a (m + n) = clr bs a m + clr bs (a + m) n
  | 0 => by simp [clr]
  | n + 1 => by
    rw [show m + (n + 1) = (m + n) + 1 by omega, clr, clr, clr_add bs a m n, show a + ((m + n : Nat) : Int) = a + m + n by omega]
    omega

theorem clr_all {bs : List Int} {a : Int} : ∀ (n : Nat), (∀ k : Nat, k < n → hasB bs (a + k) = false) → clr bs a n = n
  | 0, _ => rfl
  | n + 1, h => by rw [clr, clr_all n fun k hk => h k (by omega), h n (by omega)]; simp
theorem clr_none {bs : List Int} {a : Int} : ∀ (n : Nat), (∀ k : Nat, k < n → hasB bs (a + k) = true) → clr bs a n = 0
  | 0, _ => rfl
  | n + 1, h => by rw [clr, clr_none n fun k hk => h k (by omega), h n (by omega)]; simp

/-- A run that was set and is now clear. -/
theorem clr_run {bs cs : List Int} {a p : Int} {n m : Nat} (h1 : a ≤ p) (h2 : p + m ≤ a + n) (hs : ∀ k, p ≤ k → k < p + m → hasB bs k = true) (hc : ∀ k, p ≤ k → k < p + m → hasB cs k = false)
    (ho : ∀ k, a ≤ k → k < a + n → ¬ (p ≤ k ∧ k < p + m) → hasB cs k = hasB bs k) : clr cs a n = clr bs a n + m := by
  obtain ⟨u, hu⟩ : ∃ u : Nat, p = a + u := ⟨(p - a).toNat, by omega⟩
  obtain ⟨v, hv⟩ : ∃ v : Nat, n = u + m + v := ⟨n - u - m, by omega⟩
  subst hu hv
  rw [clr_add cs a (u + m) v, clr_add cs a u m, clr_add bs a (u + m) v, clr_add bs a u m,
    clr_congr (bs := cs) (cs := bs) (a := a) u (fun k hk => ho _ (by omega) (by omega) (by omega)),
    clr_congr (bs := cs) (cs := bs) (a := a + ((u + m : Nat) : Int)) v (fun k hk => ho _ (by omega) (by omega) (by omega)),
    clr_all (bs := cs) (a := a + u) m (fun k hk => hc _ (by omega) (by omega)), clr_none (bs := bs) (a := a + u) m (fun k hk => hs _ (by omega) (by omega))]
  omega

/-- The rows' blocks together: the clear bits. -/
theorem sumL_rowsGo {bs : List Int} {e lo : Int} (ht : ∀ k, lo ≤ k → k < e → thereB bs.length k = true) : ∀ (F : Nat) (at_ : Int), lo ≤ at_ → (e - at_).toNat + 1 ≤ F → sumL (rowsGo bs e F at_) = clr bs at_ (e - at_).toNat
  | 0, _, _, h => by omega
  | F + 1, at_, hl, hF => by
    rw [rowsGo]
    cases ha : nextB bs false at_ e with
    | none =>
      have := nextB_none (fun k h1 h2 => ht k (by omega) h2) ha
      rw [clr_none _ fun k hk => by rw [this _ (by omega) (by omega)]; rfl]; rfl
    | some a =>
      obtain ⟨p1, p2, p3, p0⟩ := nextB_some (fun k h1 h2 => ht k (by omega) h2) ha
      obtain ⟨p4, p5⟩ := nextB_after (fun k h1 h2 => ht k (by omega) h2) p3 p2
      have hcl : ∀ k, a ≤ k → k < (nextB bs true a e).getD e → hasB bs k = false := fun k h1 h2 => by
        cases hn : nextB bs true a e with
        | none =>
          rw [hn] at h2
          exact nextB_none (fun k h1 h2 => ht k (by omega) h2) hn k h1 (by simpa using h2)
        | some j =>
          rw [hn] at h2
          exact (nextB_some (fun k h1 h2 => ht k (by omega) h2) hn).2.2.2 k h1 (by simpa using h2)
      simp only
      rw [sumL_cons, sumL_rowsGo ht F ((nextB bs true a e).getD e) (by omega) (by omega)]
      generalize (nextB bs true a e).getD e = z at *
      simp only
      rw [show (e - at_).toNat = (a - at_).toNat + (z - a).toNat + (e - z).toNat by omega, clr_add, clr_add,
        clr_none (bs := bs) (a := at_) _ (fun k hk => by rw [p0 _ (by omega) (by omega)]; rfl), show at_ + (((a - at_).toNat : Nat) : Int) = a by omega,
        clr_all (bs := bs) (a := a) _ (fun k hk => hcl _ (by omega) (by omega)), show at_ + (((a - at_).toNat + (z - a).toNat : Nat) : Int) = z by omega]
      omega
end Go.Proofs.Ytdjnadnmlcpaaaa
