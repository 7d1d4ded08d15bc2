import Derived.Test.YtdjnadnmlcpaaaaBits
import Derived.Laws.Bits64b
/-! Plain facts on words of bits. -/
namespace Go.Proofs.Ytdjnadnmlcpaaaa
open Go.RowKit

def Words (bs : List Int) : Prop := ∀ x ∈ bs, 0 ≤ x ∧ x < 18446744073709551616

theorem bitW (n k : Nat) (hn : n < 18446744073709551616) : (bits .and .u64 ((n : Int) / 2 ^ k) 1 == 1) = n.testBit k := by
  have h1 : ((n : Int) / 2 ^ k) = ((n / 2 ^ k : Nat) : Int) := by simp
  rw [h1, show (1 : Int) = ((1 : Nat) : Int) from rfl, bits_and_u64_nat _ _ (Nat.lt_of_le_of_lt (Nat.div_le_self _ _) hn) (by decide), Nat.testBit, Nat.shiftRight_eq_div_pow, Nat.and_comm]
  have h2 : 1 &&& n / 2 ^ k = n / 2 ^ k % 2 := by rw [Nat.and_comm, Nat.and_one_is_mod]
  rw [h2]
  rcases Nat.mod_two_eq_zero_or_one (n / 2 ^ k) with h | h <;> rw [h] <;> rfl

theorem andNot_nat (a b : Nat) (ha : a < 18446744073709551616) (hb : b < 18446744073709551616) :
    ∃ c : Nat, bits .andNot .u64 (a : Int) (b : Int) = (c : Int) ∧ c < 18446744073709551616 ∧ ∀ j, j < 64 → c.testBit j = (a.testBit j && !b.testBit j) := by
  refine ⟨(BitVec.ofInt 64 (a : Int) &&& ~~~ BitVec.ofInt 64 (b : Int)).toNat, ?_, (BitVec.isLt _), fun j hj => ?_⟩
  · show IntKind.u64.wrap ((BitVec.ofInt 64 (a : Int) &&& ~~~ BitVec.ofInt 64 (b : Int)).toNat : Int) = _
    have := (BitVec.ofInt 64 (a : Int) &&& ~~~ BitVec.ofInt 64 (b : Int)).isLt
    rw [IntKind.wrap_u64]
    omega
  · rw [BitVec.testBit_toNat, BitVec.getLsbD_and, BitVec.getLsbD_not, BitVec.ofInt_natCast, BitVec.ofInt_natCast, BitVec.getLsbD_ofNat, BitVec.getLsbD_ofNat]
    simp [hj]

theorem wordSet_nat (n k : Nat) (yes : Bool) (hn : n < 18446744073709551616) (hk : k < 64) :
    ∃ c : Nat, wordSet (n : Int) yes (k : Int) = (c : Int) ∧ c < 18446744073709551616 ∧ ∀ j, j < 64 → c.testBit j = if j = k then yes else n.testBit j := by
  have hp : (2 : Nat) ^ k < 18446744073709551616 := Nat.lt_of_lt_of_le (Nat.pow_lt_pow_right (by omega) hk) (by decide)
  have hw : IntKind.u64.wrap (2 ^ (k : Int).toNat) = ((2 ^ k : Nat) : Int) := by
    have : ((2 : Int) ^ (k : Int).toNat) = ((2 ^ k : Nat) : Int) := by simp
    rw [this, IntKind.wrap_u64]
    generalize (2 : Nat) ^ k = p at hp ⊢
    omega
  obtain ⟨c, hc, hc2, hc3⟩ := andNot_nat n (2 ^ k) hn hp
  unfold wordSet
  rw [hw]
  simp only [hc]
  cases yes
  · exact ⟨c, rfl, hc2, fun j hj => by
      rw [hc3 j hj, Nat.testBit_two_pow]
      by_cases h : j = k
      · subst h; simp
      · rw [if_neg h]; simp [show ¬ k = j by omega]⟩
  · refine ⟨c ||| 2 ^ k, ?_, ?_, fun j hj => ?_⟩
    · simp only [if_true]; exact bits_or_u64_nat c (2 ^ k) hc2 hp
    · exact Nat.or_lt_two_pow (n := 64) (by omega) (by omega)
    · rw [Nat.testBit_or, hc3 j hj, Nat.testBit_two_pow]
      by_cases h : j = k
      · subst h; simp
      · rw [if_neg h]; simp [show ¬ k = j by omega]

theorem getD_words {bs : List Int} (h : Words bs) (i : Nat) : 0 ≤ bs.getD i 0 ∧ bs.getD i 0 < 18446744073709551616 := by
  rw [List.getD_eq_getElem?_getD]
  rcases Nat.lt_or_ge i bs.length with hi | hi
  · rw [List.getElem?_eq_getElem hi, Option.getD_some]; exact h _ (List.getElem_mem hi)
  · rw [List.getElem?_eq_none hi]; simp

theorem hasB_word {bs : List Int} (h : Words bs) (i : Int) (n : Nat) (hn : bs.getD (i / 64).toNat 0 = (n : Int)) : hasB bs i = (thereB bs.length i && n.testBit (i % 64).toNat) := by
  unfold hasB
  have := getD_words h (i / 64).toNat
  rw [hn, bitW n _ (by rw [hn] at this; omega)]

/-- **One bit set or unset: what each bit is then.** -/
theorem hasB_setOne {bs : List Int} (h : Words bs) (yes : Bool) (i : Int) (hi : thereB bs.length i = true) (j : Int) :
    hasB (setOne bs yes i) j = if j = i then yes else hasB bs j := by
  obtain ⟨n, hn⟩ : ∃ n : Nat, bs.getD (i / 64).toNat 0 = (n : Int) := ⟨(bs.getD (i / 64).toNat 0).toNat, by have := getD_words h (i / 64).toNat; omega⟩
  have hn2 : n < 18446744073709551616 := by have := getD_words h (i / 64).toNat; rw [hn] at this; omega
  have hi2 : 0 ≤ i ∧ i / 64 < bs.length := by simpa [thereB] using hi
  obtain ⟨c, hc, hc2, hc3⟩ := wordSet_nat n (i % 64).toNat yes hn2 (by omega)
  have hs : setOne bs yes i = bs.set (i / 64).toNat (c : Int) := by
    unfold setOne
    rw [if_pos hi, hn, show (i % 64) = (((i % 64).toNat : Nat) : Int) by omega, hc]
  have hW : Words (setOne bs yes i) := by
    rw [hs]; intro x hx
    rcases List.mem_or_eq_of_mem_set hx with hx | rfl
    · exact h x hx
    · omega
  by_cases hj : thereB bs.length j = true
  · have hj2 : 0 ≤ j ∧ j / 64 < bs.length := by simpa [thereB] using hj
    by_cases hw : j / 64 = i / 64
    · have e1 : (setOne bs yes i).getD (j / 64).toNat 0 = (c : Int) := by
        rw [hs, hw, List.getD_eq_getElem?_getD, List.getElem?_set_self (by omega)]; rfl
      rw [hasB_word hW j c e1, setOne_length, hj, hasB_word h j n (by rw [hw, hn]), hj, hc3 _ (by omega)]
      by_cases hji : j = i
      · subst hji; simp
      · rw [if_neg hji, if_neg (by omega)]
    · have e1 : (setOne bs yes i).getD (j / 64).toNat 0 = bs.getD (j / 64).toNat 0 := by
        rw [hs, List.getD_eq_getElem?_getD, List.getElem?_set_ne (by omega), List.getD_eq_getElem?_getD]
      have hji : j ≠ i := by rintro rfl; exact hw rfl
      rw [if_neg hji]
      unfold hasB
      rw [setOne_length, e1]
  · have hj' : thereB bs.length j = false := by simpa using hj
    have hji : j ≠ i := by rintro rfl; rw [hi] at hj'; cases hj'
    rw [if_neg hji]
    unfold hasB
    rw [setOne_length, hj']; rfl

theorem words_setOne {bs : List Int} (h : Words bs) (yes : Bool) (i : Int) : Words (setOne bs yes i) := by
  unfold setOne
  split
  · rename_i hi
    have hi2 : 0 ≤ i ∧ i / 64 < bs.length := by simpa [thereB] using hi
    have hg := getD_words h (i / 64).toNat
    obtain ⟨c, hc, hc2, _⟩ := wordSet_nat (bs.getD (i / 64).toNat 0).toNat (i % 64).toNat yes (by omega) (by omega)
    rw [show (bs.getD (i / 64).toNat 0) = ((bs.getD (i / 64).toNat 0).toNat : Int) by omega, show (i % 64) = (((i % 64).toNat : Nat) : Int) by omega, hc]
    intro x hx
    rcases List.mem_or_eq_of_mem_set hx with hx | rfl
    · exact h x hx
    · omega
  · exact h

theorem words_zero (n : Nat) : Words (List.replicate n 0) := fun x hx => by rw [(List.mem_replicate.1 hx).2]; omega
theorem hasB_zero (n : Nat) (i : Int) : hasB (List.replicate n 0) i = false := by
  have h0 : (List.replicate n (0 : Int)).getD (i / 64).toNat 0 = ((0 : Nat) : Int) := by
    rw [List.getD_eq_getElem?_getD, List.getElem?_replicate]; split <;> rfl
  rw [hasB_word (words_zero n) i 0 h0]; simp
end Go.Proofs.Ytdjnadnmlcpaaaa
