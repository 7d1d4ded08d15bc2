import Derived.Test.YtdjnadnmlcpaaaaLawP
/-! The law's state: the bits and what was told. -/
namespace Go.Proofs.Ytdjnadnmlcpaaaa
open Go.RowKit

structure Sim (g : Geo) (bs : List Int) (T : List (List (Int × Int))) : Prop where
  good : g.good = true
  words : Words bs
  len : bs.length = (g.b.toNat + 63) / 64
  out : ∀ i : Int, 0 ≤ i → i < 64 * (bs.length : Int) → ¬ (g.from_ ≤ i ∧ i < g.from_ + g.all) → hasB bs i = decide (i < g.b)
  runs : ∀ r ∈ T.flatten, 1 ≤ r.2 ∧ g.from_ ≤ r.1 ∧ r.1 + r.2 ≤ g.from_ + g.all ∧ ∀ k, r.1 ≤ k → k < r.1 + r.2 → hasB bs k = true
  pw : T.flatten.Pairwise Off

theorem Sim.there {g : Geo} {bs : List Int} {T : List (List (Int × Int))} (h : Sim g bs T) : ∀ k, g.from_ ≤ k → k < g.from_ + g.all → thereB bs.length k = true := fun k h1 h2 => by
  obtain ⟨gb, -, -, -, ga, gf, ge, gd⟩ := Geo.good_bd h.good
  have := h.len
  unfold thereB; simp; omega

theorem Off.of_bits {bs cs : List Int} {x y : Int × Int} (hx : 1 ≤ x.2) (hy : 1 ≤ y.2) (h1 : ∀ k, x.1 ≤ k → k < x.1 + x.2 → hasB bs k = true) (h2 : ∀ k, y.1 ≤ k → k < y.1 + y.2 → hasB bs k = false) : Off x y := by
  unfold Off
  rcases Int.lt_or_le y.1 (x.1 + x.2) with h | h
  · rcases Int.lt_or_le x.1 (y.1 + y.2) with h3 | h3
    · exfalso
      have a := h1 (max x.1 y.1) (by omega) (by omega)
      have b := h2 (max x.1 y.1) (by omega) (by omega)
      rw [a] at b; cases b
    · exact Or.inr h3
  · exact Or.inl h

/-! ### what Take hands out -/
structure Fresh (g : Geo) (bs : List Int) (l : List (Int × Int)) : Prop where
  el : ∀ r ∈ l, 1 ≤ r.2 ∧ g.from_ ≤ r.1 ∧ r.1 + r.2 ≤ g.from_ + g.all ∧ ∀ k, r.1 ≤ k → k < r.1 + r.2 → hasB bs k = false
  pw : l.Pairwise fun x y => x.1 + x.2 < y.1 ∨ y.1 + y.2 < x.1

theorem enough_pw : ∀ (l : List (Int × Int)) (n : Int), 0 ≤ n → (∀ y ∈ l, 1 ≤ y.2) → l.Pairwise (fun x y => x.1 + x.2 < y.1 ∨ y.1 + y.2 < x.1) → (enoughL l n).Pairwise fun x y => x.1 + x.2 < y.1 ∨ y.1 + y.2 < x.1
  | [], n, _, _, _ => by simp [enoughL]
  | y :: l, n, hn, hl, hp => by
    have hy := hl y List.mem_cons_self
    have hl' := fun z hz => hl z (List.mem_cons_of_mem _ hz)
    rw [enoughL]
    split
    · simp
    · obtain ⟨h1, h2⟩ := List.pairwise_cons.1 hp
      refine List.pairwise_cons.2 ⟨fun x hx => ?_, enough_pw l _ (by omega) hl' h2⟩
      obtain ⟨z, hz, e1, e2, e3⟩ := enoughL_in l _ (by omega) hl' x hx
      have := h1 z hz
      simp only
      omega

theorem Sim.fresh {g : Geo} {bs : List Int} {T : List (List (Int × Int))} (h : Sim g bs T) {S : List (Int × Int)} (hS : S.Perm (rowsL bs g)) (n : Int) (hn : 0 ≤ n) : Fresh g bs (enoughL S n) := by
  have hin : ∀ y ∈ S, g.from_ ≤ y.1 ∧ 1 ≤ y.2 ∧ y.1 + y.2 ≤ g.from_ + g.all ∧ (∀ k, y.1 ≤ k → k < y.1 + y.2 → hasB bs k = false) := fun y hy => by
    have := rowsGo_in h.there (g.all.toNat + 1) g.from_ (Int.le_refl _) y (hS.mem_iff.1 hy)
    exact ⟨this.1, this.2.1, this.2.2.1, this.2.2.2.1⟩
  have hpw : S.Pairwise fun x y => x.1 + x.2 < y.1 ∨ y.1 + y.2 < x.1 := by
    have hr : (rowsL bs g).Pairwise fun x y => x.1 + x.2 < y.1 ∨ y.1 + y.2 < x.1 := (rowsGo_pw h.there (g.all.toNat + 1) g.from_ (Int.le_refl _)).imp fun h => Or.inl h
    exact (List.Perm.pairwise_iff (fun h => Or.symm h) hS).2 hr
  refine ⟨fun r hr => ?_, enough_pw S n hn (fun y hy => (hin y hy).2.1) hpw⟩
  obtain ⟨z, hz, e1, e2, e3⟩ := enoughL_in S n hn (fun y hy => (hin y hy).2.1) r hr
  obtain ⟨a, b, c, d⟩ := hin z hz
  exact ⟨e3, by omega, by omega, fun k h1 h2 => d k (by omega) (by omega)⟩

theorem Fresh.off {g : Geo} {bs : List Int} {l : List (Int × Int)} (h : Fresh g bs l) : l.Pairwise Off := h.pw.imp fun h => by unfold Off; omega

theorem Fresh.cnt {g : Geo} {bs : List Int} {l : List (Int × Int)} (h : Fresh g bs l) (hg : g.good = true) : ∀ r ∈ l, cnt r = true := fun r hr => by
  obtain ⟨gb, -, -, -, ga, gf, ge, gd⟩ := Geo.good_bd hg
  have := h.el r hr
  unfold Go.Proofs.Ytdjnadnmlcpaaaa.cnt
  simp; omega

theorem Fresh.merged {g : Geo} {bs : List Int} {l : List (Int × Int)} (h : Fresh g bs l) (hg : g.good = true) : Merged l := by
  refine ⟨h.cnt hg, fun k hk => ?_⟩
  have hgd : ∀ j (hj : j < l.length), l.getD j (0, 0) = l[j] := fun j hj => by rw [List.getD_eq_getElem?_getD, List.getElem?_eq_getElem hj, Option.getD_some]
  rw [hgd k (by omega), hgd (k + 1) hk]
  have := List.pairwise_iff_getElem.1 h.pw k (k + 1) (by omega) hk (by omega)
  have h2 := h.el _ (List.getElem_mem (show k + 1 < l.length from hk))
  have h3 := h.el _ (List.getElem_mem (show k < l.length by omega))
  omega

theorem Fresh.apart {g : Geo} {bs : List Int} {l : List (Int × Int)} (h : Fresh g bs l) : ApartL l := fun i k hki hi => by
  have hgd : ∀ j (hj : j < l.length), l.getD j (0, 0) = l[j] := fun j hj => by rw [List.getD_eq_getElem?_getD, List.getElem?_eq_getElem hj, Option.getD_some]
  rw [hgd k (by omega), hgd i hi]
  have := List.pairwise_iff_getElem.1 h.pw k i (by omega) hi hki
  omega

/-- The bits that the law itself looks at, one by one, are clear. -/
theorem Fresh.clear {g : Geo} {bs : List Int} {T : List (List (Int × Int))} (hS : Sim g bs T) {l : List (Int × Int)} (h : Fresh g bs l) (k : Nat) (hk : k < l.length) (q : Nat) (hq : (q : Int) < (l.getD k (0, 0)).2) :
    hasB (markOne (markL bs true (l.take k)) true (l.getD k (0, 0)).1 q) ((l.getD k (0, 0)).1 + q) = false := by
  have hgd : l.getD k (0, 0) = l[k] := by rw [List.getD_eq_getElem?_getD, List.getElem?_eq_getElem hk, Option.getD_some]
  rw [hgd] at hq ⊢
  have hel := h.el _ (List.getElem_mem hk)
  have htk : ∀ r ∈ l.take k, ∀ j, r.1 ≤ j → j < r.1 + r.2 → thereB bs.length j = true := fun r hr j h1 h2 => by
    have := h.el r (List.mem_of_mem_take hr)
    exact hS.there j (by omega) (by omega)
  rw [hasB_markOne (words_markL hS.words _ _) _ _ _ (fun j hj => by rw [markL_length]; exact hS.there _ (by omega) (by omega)), if_neg (by omega)]
  rw [(hasB_markL hS.words true (l.take k) htk _).2]
  · exact hel.2.2.2 _ (by omega) (by omega)
  · rintro ⟨r, hr, h1, h2⟩
    obtain ⟨j, hj, rfl⟩ := List.getElem_of_mem hr
    rw [List.length_take] at hj
    rw [List.getElem_take] at h1 h2
    have := List.pairwise_iff_getElem.1 h.pw j k (by omega) hk (by omega)
    omega

theorem Sim.take {g : Geo} {bs : List Int} {T : List (List (Int × Int))} (h : Sim g bs T) {l : List (Int × Int)} (hf : Fresh g bs l) : Sim g (markL bs true l) (T ++ [l]) := by
  have htl : ∀ r ∈ l, ∀ j, r.1 ≤ j → j < r.1 + r.2 → thereB bs.length j = true := fun r hr j h1 h2 => by
    have := hf.el r hr
    exact h.there j (by omega) (by omega)
  have hm := hasB_markL h.words true l htl
  refine ⟨h.good, words_markL h.words _ _, by rw [markL_length]; exact h.len, fun i h1 h2 h3 => ?_, fun r hr => ?_, ?_⟩
  · rw [markL_length] at h2
    rw [(hm i).2 fun ⟨r, hr, a, b⟩ => by have := hf.el r hr; omega]
    exact h.out i h1 h2 h3
  · rw [List.flatten_append, List.mem_append] at hr
    rcases hr with hr | hr
    · obtain ⟨a, b, c, d⟩ := h.runs r hr
      refine ⟨a, b, c, fun k h1 h2 => ?_⟩
      by_cases hin : inL l k
      · exact (hm k).1 hin
      · rw [(hm k).2 hin]; exact d k h1 h2
    · have hr' : r ∈ l := by simpa using hr
      obtain ⟨a, b, c, d⟩ := hf.el r hr'
      exact ⟨a, b, c, fun k h1 h2 => (hm k).1 ⟨r, hr', h1, h2⟩⟩
  · rw [List.flatten_append]
    refine List.pairwise_append.2 ⟨h.pw, by simpa using hf.off, fun x hx y hy => ?_⟩
    obtain ⟨a, b, c, d⟩ := h.runs x hx
    obtain ⟨a', b', c', d'⟩ := hf.el y (by simpa using hy)
    exact Off.of_bits (cs := bs) a a' d d'

/-! ### giving back -/
theorem Sim.giveOk {g : Geo} {bs : List Int} {T : List (List (Int × Int))} (h : Sim g bs T) (i : Nat) (hi : i < T.length) : giveOk bs g T[i] := by
  obtain ⟨gb, -, -, -, ga, gf, ge, gd⟩ := Geo.good_bd h.good
  have hmem : ∀ r ∈ T[i], r ∈ T.flatten := fun r hr => List.mem_flatten.2 ⟨_, List.getElem_mem hi, hr⟩
  have hpw : T[i].Pairwise Off := (List.pairwise_flatten.1 h.pw).1 _ (List.getElem_mem hi)
  intro k hk
  right
  have hgd : T[i].getD k (0, 0) = T[i][k] := by rw [List.getD_eq_getElem?_getD, List.getElem?_eq_getElem hk, Option.getD_some]
  rw [hgd]
  obtain ⟨a, b, c, d⟩ := h.runs _ (hmem _ (List.getElem_mem hk))
  refine ⟨⟨b, by omega, by omega⟩, ?_, ?_⟩
  · unfold apartB
    rw [decide_eq_true_iff]
    exact (hpw.sublist (List.take_sublist _ _)).filter _
  · cases hn : nextB bs false T[i][k].1 (T[i][k].1 + T[i][k].2) with
    | none => rfl
    | some j =>
      obtain ⟨q1, q2, q3, q4⟩ := nextB_some (fun k h1 h2 => h.there k (by omega) (by omega)) hn
      have := d j q1 q2
      rw [q3] at this; cases this

theorem Sim.give {g : Geo} {bs : List Int} {T : List (List (Int × Int))} (h : Sim g bs T) (i : Nat) (hi : i < T.length) : Sim g (markL bs false T[i]) (T.set i []) := by
  have hmem : ∀ r ∈ T[i], r ∈ T.flatten := fun r hr => List.mem_flatten.2 ⟨_, List.getElem_mem hi, hr⟩
  have htl : ∀ r ∈ T[i], ∀ j, r.1 ≤ j → j < r.1 + r.2 → thereB bs.length j = true := fun r hr j h1 h2 => by
    have := h.runs r (hmem r hr)
    exact h.there j (by omega) (by omega)
  have hm := hasB_markL h.words false T[i] htl
  obtain ⟨p1, p2⟩ := List.pairwise_flatten.1 h.pw
  refine ⟨h.good, words_markL h.words _ _, by rw [markL_length]; exact h.len, fun j h1 h2 h3 => ?_, fun r hr => ?_, ?_⟩
  · rw [markL_length] at h2
    rw [(hm j).2 fun ⟨r, hr, a, b⟩ => by have := h.runs r (hmem r hr); omega]
    exact h.out j h1 h2 h3
  · obtain ⟨t, ht, hrt⟩ := List.mem_flatten.1 hr
    obtain ⟨j, hj, rfl⟩ := List.getElem_of_mem ht
    rw [List.length_set] at hj
    by_cases hji : j = i
    · subst hji; simp at hrt
    · rw [List.getElem_set_ne (fun e => hji e.symm)] at hrt
      have hr2 : r ∈ T.flatten := List.mem_flatten.2 ⟨_, List.getElem_mem hj, hrt⟩
      obtain ⟨a, b, c, d⟩ := h.runs r hr2
      refine ⟨a, b, c, fun k h1 h2 => ?_⟩
      rw [(hm k).2]
      · exact d k h1 h2
      · rintro ⟨s, hs, s1, s2⟩
        have : Off s r ∨ Off r s := by
          rcases Nat.lt_or_ge i j with hij | hij
          · exact Or.inl (List.pairwise_iff_getElem.1 p2 i j hi hj hij s hs r hrt)
          · exact Or.inr (List.pairwise_iff_getElem.1 p2 j i hj hi (by omega) r hrt s hs)
        unfold Off at this
        omega
  · refine List.pairwise_flatten.2 ⟨fun t ht => ?_, ?_⟩
    · rcases List.mem_or_eq_of_mem_set ht with ht | rfl
      · exact p1 t ht
      · simp
    · rw [List.pairwise_iff_getElem]
      intro a b ha hb hab x hx y hy
      rw [List.length_set] at ha hb
      by_cases hai : a = i
      · subst hai; simp at hx
      · by_cases hbi : b = i
        · subst hbi; simp at hy
        · rw [List.getElem_set_ne (fun e => hai e.symm)] at hx
          rw [List.getElem_set_ne (fun e => hbi e.symm)] at hy
          exact List.pairwise_iff_getElem.1 p2 a b ha hb hab x hx y hy
end Go.Proofs.Ytdjnadnmlcpaaaa
