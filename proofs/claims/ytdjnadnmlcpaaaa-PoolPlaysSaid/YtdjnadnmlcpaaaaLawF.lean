import Derived.Test.YtdjnadnmlcpaaaaLawS
import Derived.Test.YtdjnadnmlcpaaaaEmpty
/-! Free blocks, set bits, the empty bits, the law's few. -/
namespace Go.Proofs.Ytdjnadnmlcpaaaa
open Go.RowKit

theorem rows_counts {g : Geo} {bs : List Int} (hg : g.good = true) (ht : ∀ k, g.from_ ≤ k → k < g.from_ + g.all → thereB bs.length k = true) : counts (rowsL bs g) = rowsL bs g := by
  obtain ⟨gb, -, -, -, ga, gf, ge, gd⟩ := Geo.good_bd hg
  refine counts_self _ fun x hx => ?_
  have := rowsGo_in ht (g.all.toNat + 1) g.from_ (Int.le_refl _) x hx
  unfold cnt; simp; omega

theorem freeN_clr {g : Geo} {bs : List Int} (hg : g.good = true) (ht : ∀ k, g.from_ ≤ k → k < g.from_ + g.all → thereB bs.length k = true) : freeN bs g = clr bs g.from_ g.all.toNat := by
  obtain ⟨gb, -, -, -, ga, gf, ge, gd⟩ := Geo.good_bd hg
  unfold freeN
  rw [rows_counts hg ht]
  unfold rowsL
  rw [sumL_rowsGo ht _ _ (Int.le_refl _) (by omega), show g.from_ + g.all - g.from_ = g.all by omega]

theorem give_pw {bs : List Int} {f0 a0 : Int} (l : List (Int × Int)) (h : ∀ k, k < l.length → giveAt bs f0 a0 l k) : ∀ m, m ≤ l.length → (counts (l.take m)).Pairwise Off
  | 0, _ => by simp [counts]
  | m + 1, hm => by
    rcases h m (by omega) with h1 | ⟨_, h2, _⟩
    · rw [counts_snoc l m (by omega), if_neg (by generalize l.getD m (0, 0) = r at h1 ⊢; unfold cnt; simp; omega), List.append_nil]
      exact give_pw l h m (by omega)
    · unfold apartB at h2
      exact decide_eq_true_iff.1 h2

theorem give_free {g : Geo} {bs : List Int} {T : List (List (Int × Int))} (hS : Sim g bs T) (l : List (Int × Int)) (h : giveOk bs g l) : freeN (markL bs false l) g = freeN bs g + sumL (counts l) := by
  obtain ⟨gb, -, -, -, ga, gf, ge, gd⟩ := Geo.good_bd hS.good
  have hth := hS.there
  rw [freeN_clr hS.good hth, freeN_clr hS.good (by rw [markL_length]; exact hth)]
  have key : ∀ m, m ≤ l.length → clr (markL bs false (l.take m)) g.from_ g.all.toNat = clr bs g.from_ g.all.toNat + sumL (counts (l.take m)) := by
    intro m
    induction m with
    | zero => intro _; simp [markL, counts, sumL]
    | succ m ih =>
      intro hm
      have ih := ih (by omega)
      have hpw := give_pw l h (m + 1) hm
      rw [markL_snoc bs false l m (by omega), counts_snoc l m (by omega)]
      rw [counts_snoc l m (by omega)] at hpw
      have hat := h m (by omega)
      unfold giveAt at hat
      generalize l.getD m (0, 0) = r at *
      rcases hat with h1 | ⟨⟨h1, h2, h3⟩, _, h4⟩
      · rw [show r.2.toNat = 0 by omega, if_neg (by unfold cnt; simp; omega), List.append_nil]
        exact ih
      · by_cases hr : r.2 < 1
        · rw [show r.2.toNat = 0 by omega, if_neg (by unfold cnt; simp; omega), List.append_nil]
          exact ih
        · have hc : cnt r = true := by unfold cnt; simp; omega
          rw [if_pos hc] at hpw ⊢
          have hoff := (List.pairwise_append.1 hpw).2.2
          have hW := words_markL hS.words false (l.take m)
          have htl : ∀ x ∈ l.take m, ∀ k, x.1 ≤ k → k < x.1 + x.2 → thereB bs.length k = true := fun x hx k k1 k2 => by
            obtain ⟨j, hj, rfl⟩ := List.getElem_of_mem (List.mem_of_mem_take hx)
            have ha := h j hj
            unfold giveAt at ha
            rw [show l.getD j (0, 0) = l[j] by rw [List.getD_eq_getElem?_getD, List.getElem?_eq_getElem hj, Option.getD_some]] at ha
            rcases ha with ha | ⟨⟨a1, a2, a3⟩, _⟩
            · omega
            · exact hth k (by omega) (by omega)
          have hset : ∀ k, r.1 ≤ k → k < r.1 + r.2 → hasB bs k = true := fun k k1 k2 => by
            have := nextB_none (fun k h1 h2 => hth k (by omega) (by omega)) h4 k k1 k2
            simpa using this
          have hcur : ∀ k, r.1 ≤ k → k < r.1 + r.2 → hasB (markL bs false (l.take m)) k = true := fun k k1 k2 => by
            rw [(hasB_markL hS.words false (l.take m) htl k).2]
            · exact hset k k1 k2
            · rintro ⟨x, hx, x1, x2⟩
              have hxc : x ∈ counts (l.take m) := List.mem_filter.2 ⟨hx, by
                obtain ⟨j, hj, rfl⟩ := List.getElem_of_mem (List.mem_of_mem_take hx)
                have ha := h j hj
                unfold giveAt at ha
                rw [show l.getD j (0, 0) = l[j] by rw [List.getD_eq_getElem?_getD, List.getElem?_eq_getElem hj, Option.getD_some]] at ha
                rcases ha with ha | ⟨⟨a1, a2, a3⟩, _⟩
                · omega
                · unfold cnt; simp; omega⟩
              have := hoff x hxc r (by simp)
              unfold Off at this
              omega
          have hone := hasB_markOne hW false r.1 r.2.toNat (fun k hk => by rw [markL_length]; exact hth _ (by omega) (by omega))
          rw [clr_run (bs := markL bs false (l.take m)) (a := g.from_) (p := r.1) (n := g.all.toNat) (m := r.2.toNat) h1 (by omega) (fun k k1 k2 => hcur k k1 (by omega)) (fun k k1 k2 => by rw [hone, if_pos ⟨k1, k2⟩]) (fun k _ _ k3 => by rw [hone, if_neg k3]), ih]
          unfold sumL
          rw [List.map_append, List.sum_append]
          simp
          omega
  have := key l.length (Nat.le_refl _)
  rwa [List.take_length] at this

theorem countTo_clr (bs : List Int) : ∀ n : Nat, (countTo bs n : Int) = n - clr bs 0 n
  | 0 => rfl
  | n + 1 => by
    rw [countTo, clr]
    have := countTo_clr bs n
    rw [show (0 : Int) + (n : Int) = (n : Int) by omega]
    split <;> simp <;> omega

theorem count_free {g : Geo} {bs : List Int} {T : List (List (Int × Int))} (h : Sim g bs T) : freeN bs g = g.b - countB bs := by
  obtain ⟨gb, -, -, -, ga, gf, ge, gd⟩ := Geo.good_bd h.good
  have hl := h.len
  rw [freeN_clr h.good h.there]
  unfold countB
  rw [countTo_clr]
  have e : 64 * bs.length = g.from_.toNat + (g.all.toNat + (1 + (64 * bs.length - g.b.toNat))) := by omega
  rw [e, clr_add, clr_add, clr_add]
  rw [clr_none (bs := bs) (a := 0) g.from_.toNat fun k hk => by
    rw [h.out (0 + (k : Int)) (by omega) (by omega) (by omega)]; simp; omega]
  rw [show (0 : Int) + ((g.from_.toNat : Nat) : Int) = g.from_ by omega]
  rw [clr_none (bs := bs) (a := g.from_ + (g.all.toNat : Int)) 1 fun k hk => by
    rw [h.out (g.from_ + (g.all.toNat : Int) + (k : Int)) (by omega) (by omega) (by omega)]; simp; omega]
  rw [clr_all (bs := bs) (a := g.from_ + (g.all.toNat : Int) + ((1 : Nat) : Int)) _ fun k hk => by
    rw [h.out (g.from_ + (g.all.toNat : Int) + ((1 : Nat) : Int) + (k : Int)) (by omega) (by omega) (by omega)]; simp; omega]
  omega

theorem emptyTo_bits (g : Geo) (hg : g.good = true) : ∀ n : Nat, (n : Int) ≤ g.b → Words (emptyTo g n) ∧ ∀ i : Int, 0 ≤ i → i < 64 * (((g.b.toNat + 63) / 64 : Nat) : Int) → hasB (emptyTo g n) i = decide (i < n ∧ ¬ (g.from_ ≤ i ∧ i < g.from_ + g.all))
  | 0, _ => ⟨words_zero _, fun i h1 h2 => by rw [emptyTo, hasB_zero]; symm; rw [decide_eq_false_iff_not]; omega⟩
  | n + 1, hn => by
    obtain ⟨h1, h2⟩ := emptyTo_bits g hg n (by omega)
    rw [emptyTo]
    split
    · rename_i hin
      refine ⟨words_setOne h1 _ _, fun i h3 h4 => ?_⟩
      rw [hasB_setOne h1 true n (by rw [emptyTo_len]; unfold thereB; simp; omega), h2 i h3 h4]
      by_cases he : i = (n : Int)
      · rw [if_pos he]; symm; rw [decide_eq_true_iff]; omega
      · rw [if_neg he]; congr 1; simp only [eq_iff_iff]; omega
    · rename_i hin
      refine ⟨h1, fun i h3 h4 => ?_⟩
      rw [h2 i h3 h4]; congr 1; simp only [eq_iff_iff]; omega

theorem Sim.start {g : Geo} (hg : g.good = true) : Sim g (emptyW g) [] := by
  obtain ⟨gb, -, -, -, ga, gf, ge, gd⟩ := Geo.good_bd hg
  obtain ⟨h1, h2⟩ := emptyTo_bits g hg g.b.toNat (by omega)
  refine ⟨hg, h1, emptyTo_len _ _, fun i h3 h4 h5 => ?_, by simp, by simp⟩
  unfold emptyW at *
  rw [emptyTo_len] at h4
  rw [h2 i h3 (by omega)]
  congr 1; simp only [eq_iff_iff]; omega

/-- What the law's longest says of what Take hands out. -/
def descL (l : List Int) : List Int := l.mergeSort fun a b => decide (b ≤ a)
theorem descL_perm (l : List Int) : l.Perm (descL l) := (List.mergeSort_perm _ _).symm
theorem descL_pw (l : List Int) : (descL l).Pairwise fun x y => y ≤ x :=
  (List.pairwise_mergeSort (le := fun a b : Int => decide (b ≤ a)) (fun a b c h1 h2 => by simp at *; omega) (fun a b => by simp; omega) l).imp fun h => by simpa using h

theorem Sim.few {g : Geo} {bs : List Int} {T : List (List (Int × Int))} (h : Sim g bs T) {S : List (Int × Int)} (hS : S.Perm (rowsL bs g)) (n most : Int) (hn : 0 ≤ n) (hd : S.Pairwise fun x y => min y.2 n ≤ min x.2 n) :
    few (descL ((rowsL bs g).map (·.2))) n most.toNat = if sumL (counts (enoughL S n)) < n ∨ most.toNat < (enoughL S n).length then none else some (enoughL S n).length := by
  have hin : ∀ y ∈ S, 1 ≤ y.2 := fun y hy => (rowsGo_in h.there (g.all.toNat + 1) g.from_ (Int.le_refl _) y (hS.mem_iff.1 hy)).2.1
  rw [counts_self _ ((h.fresh hS n hn).cnt h.good), ← few_enough S n most.toNat hn hin]
  refine few_perm n most.toNat hn ((descL_perm _).symm.trans (hS.map _).symm) (descL_pw _) ?_ fun x hx => ?_
  · rw [List.pairwise_map]; exact hd
  · obtain ⟨y, hy, rfl⟩ := List.mem_map.1 ((hS.map (·.2)).mem_iff.2 ((descL_perm _).mem_iff.2 hx))
    have := hin y hy; omega
end Go.Proofs.Ytdjnadnmlcpaaaa
