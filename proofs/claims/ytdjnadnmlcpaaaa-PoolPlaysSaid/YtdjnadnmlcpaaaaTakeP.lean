import Derived.Test.YtdjnadnmlcpaaaaTakeS
/-! Plain facts on the pool's rows and on enough. -/
namespace Go.Proofs.Ytdjnadnmlcpaaaa
open Go.Shelf Go.RowKit Go.Lib Go.Sort

theorem rowsGo_in {bs : List Int} {e lo : Int} (ht : ∀ k, lo ≤ k → k < e → thereB bs.length k = true) : ∀ (F : Nat) (at_ : Int), lo ≤ at_ → ∀ x ∈ rowsGo bs e F at_,
    at_ ≤ x.1 ∧ 1 ≤ x.2 ∧ x.1 + x.2 ≤ e ∧ (∀ k, x.1 ≤ k → k < x.1 + x.2 → hasB bs k = false) ∧ (x.1 + x.2 < e → hasB bs (x.1 + x.2) = true)
  | 0, _, _, x, hx => by simp [rowsGo] at hx
  | F + 1, at_, hl, x, hx => by
    rw [rowsGo] at hx
    split at hx
    · simp at hx
    · rename_i a ha
      obtain ⟨p1, p2, p3, _⟩ := nextB_some (fun k h1 h2 => ht k (by omega) h2) ha
      obtain ⟨p4, p5⟩ := nextB_after (fun k h1 h2 => ht k (by omega) h2) p3 p2
      rcases List.mem_cons.1 hx with rfl | hx
      · refine ⟨p1, by simp; omega, by simp; omega, fun k h1 h2 => ?_, fun h => ?_⟩
        · cases hn : nextB bs true a e with
          | none =>
            rw [hn] at h2
            exact nextB_none (fun k h1 h2 => ht k (by omega) h2) hn k h1 (by simp at h2; omega)
          | some j =>
            rw [hn] at h2
            obtain ⟨q1, q2, q3, q4⟩ := nextB_some (fun k h1 h2 => ht k (by omega) h2) hn
            exact q4 k h1 (by simp at h2; omega)
        · cases hn : nextB bs true a e with
          | none => rw [hn] at h; simp at h; omega
          | some j =>
            obtain ⟨q1, q2, q3, q4⟩ := nextB_some (fun k h1 h2 => ht k (by omega) h2) hn
            simp only [hn, Option.getD_some] at h ⊢
            rw [show a + (j - a) = j by omega]; exact q3
      · obtain ⟨h1, h2⟩ := rowsGo_in ht F _ (by omega) x hx
        exact ⟨by omega, h2⟩

/-- Rising, a used block between each and the next. -/
theorem rowsGo_pw {bs : List Int} {e lo : Int} (ht : ∀ k, lo ≤ k → k < e → thereB bs.length k = true) : ∀ (F : Nat) (at_ : Int), lo ≤ at_ → (rowsGo bs e F at_).Pairwise fun x y => x.1 + x.2 < y.1
  | 0, _, _ => by simp [rowsGo]
  | F + 1, at_, hl => by
    rw [rowsGo]
    split
    · simp
    · rename_i a ha
      obtain ⟨p1, p2, p3, _⟩ := nextB_some (fun k h1 h2 => ht k (by omega) h2) ha
      obtain ⟨p4, p5⟩ := nextB_after (fun k h1 h2 => ht k (by omega) h2) p3 p2
      refine List.pairwise_cons.2 ⟨fun y hy => ?_, rowsGo_pw ht F _ (by omega)⟩
      obtain ⟨h1, h2, h3, h4, _⟩ := rowsGo_in ht F _ (by omega) y hy
      simp only
      rw [show a + ((nextB bs true a e).getD e - a) = (nextB bs true a e).getD e by omega]
      rcases Int.lt_or_le ((nextB bs true a e).getD e) y.1 with h | h
      · exact h
      · exfalso
        have hy1 : y.1 = (nextB bs true a e).getD e := by omega
        have hcl := h4 y.1 (Int.le_refl _) (by omega)
        cases hn : nextB bs true a e with
        | none => rw [hn] at hy1; simp at hy1; omega
        | some j =>
          obtain ⟨q1, q2, q3, q4⟩ := nextB_some (fun k h1 h2 => ht k (by omega) h2) hn
          rw [hn] at hy1; simp at hy1
          rw [hy1, q3] at hcl; cases hcl

/-- Every clear bit lies in one of the rows. -/
theorem rowsGo_all {bs : List Int} {e lo : Int} (ht : ∀ k, lo ≤ k → k < e → thereB bs.length k = true) : ∀ (F : Nat) (at_ : Int), lo ≤ at_ → (e - at_).toNat + 1 ≤ F → ∀ k, at_ ≤ k → k < e → hasB bs k = false → ∃ x ∈ rowsGo bs e F at_, x.1 ≤ k ∧ k < x.1 + x.2
  | 0, _, _, h, _, _, _, _ => by omega
  | F + 1, at_, hl, hF, k, h1, h2, h3 => by
    rw [rowsGo]
    cases ha : nextB bs false at_ e with
    | none =>
      have := nextB_none (fun k h1 h2 => ht k (by omega) h2) ha k h1 h2
      rw [h3] at this; cases this
    | some a =>
      obtain ⟨p1, p2, p3, p0⟩ := nextB_some (fun k h1 h2 => ht k (by omega) h2) ha
      obtain ⟨p4, p5⟩ := nextB_after (fun k h1 h2 => ht k (by omega) h2) p3 p2
      simp only
      by_cases hk : k < (nextB bs true a e).getD e
      · refine ⟨_, List.mem_cons_self, ?_, by simp only; omega⟩
        simp only
        rcases Int.lt_or_le k a with h | h
        · have := p0 k h1 h; rw [h3] at this; cases this
        · exact h
      · obtain ⟨x, hx, h4⟩ := rowsGo_all ht F ((nextB bs true a e).getD e) (by omega) (by omega) k (by omega) h2 h3
        exact ⟨x, List.mem_cons_of_mem _ hx, h4⟩

theorem enoughL_in : ∀ (l : List (Int × Int)) (n : Int), 0 ≤ n → (∀ y ∈ l, 1 ≤ y.2) → ∀ x ∈ enoughL l n, ∃ y ∈ l, x.1 = y.1 ∧ x.2 ≤ y.2 ∧ 1 ≤ x.2
  | [], n, _, _, x, hx => by simp [enoughL] at hx
  | y :: l, n, hn, hl, x, hx => by
    rw [enoughL] at hx
    split at hx
    · simp at hx
    · have := hl y List.mem_cons_self
      rcases List.mem_cons.1 hx with rfl | hx
      · exact ⟨y, List.mem_cons_self, rfl, by simp only; omega, by simp only; omega⟩
      · obtain ⟨z, hz, h⟩ := enoughL_in l _ (by omega) (fun z hz => hl z (List.mem_cons_of_mem _ hz)) x hx
        exact ⟨z, List.mem_cons_of_mem _ hz, h⟩
end Go.Proofs.Ytdjnadnmlcpaaaa
