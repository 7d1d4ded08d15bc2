import Derived.Test.YtdjnadnmlcpaaaaLawF
import Derived.Test.YtdjnadnmlcpaaaaLong
/-! The law's awake. -/
namespace Go.Proofs.Ytdjnadnmlcpaaaa
open Go.RowKit

def g64 : Geo := ⟨64, 10, 1, 20⟩
theorem g64_good : g64.good = true := by decide
theorem g64_len : (emptyW g64).length = 1 := by rw [emptyW, emptyTo_len]; rfl
theorem g64_rows : rowsL (emptyW g64) g64 = [(42, 21)] := by kernel_rfl
theorem g64_free : freeN (markL (emptyW g64) true [(42, 3)]) g64 = 18 := by kernel_rfl

set_option maxHeartbeats 1000000 in
set_option maxRecDepth 100000 in
theorem awake_calls (w : World) : Calls Try.prog 4 #[] w fun e w' => e = .returned (.bool true) ∧ Below w.heap.size w w' := by
  have hpl : ∀ W, Calls Try.prog 22 #[.int .i64 64] W fun e w' => e = .returned g64.val ∧ Below W.heap.size W w' := fun W => plain_calls 64 W
  have hem : ∀ W, Calls Try.prog 7 #[g64.val] W fun e w' => ∃ v', e = .returned (.agg #[v']) ∧ w'.ownsRow 0 58 1 v' (emptyW g64).length (ints .u64 (emptyW g64)) ∧ Below W.heap.size W w' := fun W => empty_calls g64 W g64_good
  have hgv : g64.val = .agg #[.int .i64 64, .int .i64 10, .int .i64 1, .int .i64 20] := rfl
  rw [hgv] at hpl hem
  have HPL := Kp.mk hpl
  have HEM := Kp.mk hem
  have HGV := Kp.mk hgv
  clear hpl hem hgv
  go_enter Try.func4, Try.ntmps4
  go_wp2_with fail
  refine (HPL.out _).mono ?_
  rintro e w1 ⟨rfl, hb1⟩
  have HB1 := Kp.mk hb1
  clear hb1
  go_wp2_with fail
  refine (HPL.out _).mono ?_
  rintro e w2 ⟨rfl, hb2⟩
  have HB2 : Kp (Below w.heap.size w w2) := ⟨below_then HB1.out hb2⟩
  clear hb2 HB1
  go_wp2_with fail
  refine (HEM.out _).mono ?_
  rintro e w3 ⟨v3, rfl, hs3, hb3⟩
  have HB3 : Kp (Below w.heap.size w w3) := ⟨below_then HB2.out hb3⟩
  have HN : Kp _ := ⟨pnew_calls g64 v3 (emptyW g64) w3 g64_good (Sl.of_own hs3 (by rw [g64_len]; decide)) (by rw [g64_len]; decide) (by rw [g64_len]; decide) (by rw [g64_len]; decide)⟩
  clear hb3 hs3 HB2
  rw [HGV.out] at HN
  go_wp2_with fail
  refine HN.out.mono ?_
  rintro e w4 ⟨q, v4, rfl, hq, hP, hown, hne, hb4⟩
  have HB4 : Kp (Below w.heap.size w w4) := ⟨below_then HB3.out hb4⟩
  have HP := Kp.mk hP
  have HT : Kp _ := ⟨take_good q g64 v4 (emptyW g64) 0 3 1 w4 hP hne (by rw [g64_len]; decide) (by decide) (by decide) (by decide) (by decide) (by decide)⟩
  have HQ : Kp (w.heap.size ≤ q) := ⟨Nat.le_trans HB3.out.size hq⟩
  clear hb4 hP hown hne hq HN HB3
  go_wp2_with fail
  refine HT.out.mono ?_
  rintro e w5 ⟨S, hSp, hSd, hcase⟩
  rw [g64_rows] at hSp
  obtain rfl : S = [(42, 21)] := List.perm_singleton.1 hSp
  have e1 : enoughL [((42 : Int), (21 : Int))] 3 = [(42, 3)] := by kernel_rfl
  rw [e1] at hcase
  have e2 : sumL (counts [((42 : Int), (3 : Int))]) = 3 := by kernel_rfl
  rw [e2] at hcase
  rcases hcase with ⟨h1, _⟩ | ⟨_, v5, bv5, rfl, hown5, hP5⟩
  · exfalso; simp at h1
  obtain ⟨A5, cap5, hv5, _, hx⟩ := (show SlP w5 v5 [(42, 3)] from Sl.of_own hown5 (by simp)).form
  subst hv5
  obtain ⟨b, o, rfl, hbb, hc⟩ := hx (by simp)
  have c1 : w5.cell? ⟨b, o + 1, none⟩ = some (.int .i64 3) := (hc 0 (by simp)).2
  have HF : Kp _ := ⟨free_calls q g64 bv5 _ w5 hP5.ok (by rw [markL_length, g64_len]; decide)⟩
  rw [g64_free] at HF
  have HB5 : Kp (Below w.heap.size w w5) := ⟨HB4.out.grown hP5.grown HB4.out.size (fun k hk => by injection hk with hk; have := HQ.out; omega)⟩
  clear hP5 hown5 hx hc HT hSd hSp e1 e2
  go_wp2_with fail
  refine HF.out.mono ?_
  rintro e w6 ⟨rfl, hb6⟩
  have HB6 : Kp (Below w.heap.size w w6) := ⟨below_then HB5.out hb6⟩
  clear hb6 HF
  go_wp2_with fail
  go_ret
  exact ⟨rfl, HB6.out⟩
end Go.Proofs.Ytdjnadnmlcpaaaa
