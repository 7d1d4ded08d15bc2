/- Contracts of package geom. -/
import Derived.Test.YtdjnadnmlcpaaaaProg
import Derived.Test.YtdjnadnmlcpaaaaBase
namespace Go.Proofs.Ytdjnadnmlcpaaaa
open Go.RowKit

structure Geo where
  b : Int
  n : Int
  c : Int
  k : Int

def Geo.val (g : Geo) : Value := .agg #[.int .i64 g.b, .int .i64 g.n, .int .i64 g.c, .int .i64 g.k]
def inB (n lo hi : Int) : Bool := decide (lo ≤ n) && decide (n ≤ hi)
def Geo.in4 (g : Geo) : Bool := inB g.b 64 1024 && inB g.n 4 64 && inB g.c 1 8 && inB g.k 16 110
/-- Where the data begins; how many blocks it takes. -/
def Geo.from_ (g : Geo) : Int := 1 + g.c * g.k + (g.b + 511) / 512 + 2 * g.n
def Geo.all (g : Geo) : Int := g.b - 1 - g.from_
def Geo.good (g : Geo) : Bool := g.in4 && decide (1 ≤ g.all)

theorem inB_iff {n lo hi : Int} : inB n lo hi = true ↔ lo ≤ n ∧ n ≤ hi := by simp [inB]
theorem Geo.in4_iff {g : Geo} : g.in4 = true ↔ (64 ≤ g.b ∧ g.b ≤ 1024) ∧ (4 ≤ g.n ∧ g.n ≤ 64) ∧ (1 ≤ g.c ∧ g.c ≤ 8) ∧ (16 ≤ g.k ∧ g.k ≤ 110) := by
  simp [Geo.in4, inB_iff, and_assoc]

theorem in_calls (n lo hi : Int) (w : World) : Calls Try.prog 23 #[.int .i64 n, .int .i64 lo, .int .i64 hi] w fun e w' => e = .returned (.bool (inB n lo hi)) ∧ w = w' := by
  by_cases h0 : lo ≤ n
  · have hb0 : decide (lo ≤ n) = true := by simpa using h0
    go_enter Try.func23, Try.ntmps23
    go_wp2
    go_ret
    exact ⟨by simp [inB, h0], rfl⟩
  · have hb0 : decide (lo ≤ n) = false := by simpa using h0
    have hb1 : inB n lo hi = false := by simp [inB, h0]
    rw [hb1]
    clear hb1
    go_enter Try.func23, Try.ntmps23
    go_wp2
    go_ret
    exact ⟨rfl, rfl⟩

theorem gbits_calls (g : Geo) (w : World) (h : g.in4 = true) : Calls Try.prog 41 #[g.val] w fun e w' => e = .returned (.tuple #[.int .i64 (1 + g.c * g.k), .int .i64 ((g.b + 511) / 512)]) ∧ Below w.heap.size w w' := by
  obtain ⟨⟨b1, b2⟩, ⟨n1, n2⟩, ⟨c1, c2⟩, ⟨k1, k2⟩⟩ := Geo.in4_iff.1 h
  clear h
  obtain ⟨b, n, c, k⟩ := g
  dsimp only at *
  unfold Geo.val
  have hm1 : c * k ≤ 880 := by
    have h1 : c * k ≤ 8 * k := Int.mul_le_mul_of_nonneg_right c2 (by omega)
    omega
  have hm0 : 0 ≤ c * k := Int.mul_nonneg (by omega) (by omega)
  have he : (b + 512 - 1) / 512 = (b + 511) / 512 := by omega
  have HE := Kp.mk he
  clear he
  go_enter Try.func41, Try.ntmps41
  go_wp2
  go_quiet (fail)
  go_wp2
  go_ret2
  refine ⟨?_, below_drewN ((Below.refl _ _).alloc (Nat.le_refl _) _) _⟩
  simp [HE.out]

theorem gdata_calls (g : Geo) (w : World) (h : g.in4 = true) : Calls Try.prog 24 #[g.val] w fun e w' => e = .returned (.tuple #[.int .i64 g.from_, .int .i64 g.all]) ∧ Below w.heap.size w w' := by
  obtain ⟨⟨b1, b2⟩, ⟨n1, n2⟩, ⟨c1, c2⟩, ⟨k1, k2⟩⟩ := Geo.in4_iff.1 h
  have hc := fun W => gbits_calls g W h
  have HC := Kp.mk hc
  clear hc h
  obtain ⟨b, n, c, k⟩ := g
  dsimp only at *
  have hm1 : c * k ≤ 880 := by
    have h1 : c * k ≤ 8 * k := Int.mul_le_mul_of_nonneg_right c2 (by omega)
    omega
  have hm0 : 0 ≤ c * k := Int.mul_nonneg (by omega) (by omega)
  unfold Geo.all Geo.from_
  dsimp only
  have hd0 : 0 ≤ (b + 511) / 512 := by omega
  have hd1 : (b + 511) / 512 ≤ 3 := by omega
  generalize c * k = ck at *
  generalize (b + 511) / 512 = d at *
  unfold Geo.val
  go_enter Try.func24, Try.ntmps24
  go_wp2_with fail
  refine (HC.out _).mono ?_
  rintro e w1 ⟨rfl, hb⟩
  obtain ⟨hcc, hff⟩ := cells_below hb
  have HB := Kp.mk hb
  clear hb
  have hcb : w1.cell? ⟨w.heap.size, 0, none⟩ = some (.int .i64 b) ∧ w1.cell? ⟨w.heap.size, 1, none⟩ = some (.int .i64 n) := by
    constructor <;> (rw [hcc _ _ (by simp)]; simp)
  obtain ⟨hcb0, hcb1⟩ := hcb
  clear hcc hff
  go_wp2_with fail
  go_quiet (fail)
  go_wp2_with fail
  go_ret2
  refine ⟨?_, below_drewN (((Below.refl _ _).alloc (Nat.le_refl _) _).trans (HB.out.mono (by simp))) _⟩
  simp

set_option maxHeartbeats 1000000 in
theorem good_calls (g : Geo) (w : World) : Calls Try.prog 5 #[g.val] w fun e w' => e = .returned (.bool g.good) ∧ Below w.heap.size w w' := by
  have hdata := fun (h : g.in4 = true) W => gdata_calls g W h
  have HD := Kp.mk hdata
  clear hdata
  have hg : g.good = (g.in4 && decide (1 ≤ g.all)) := rfl
  obtain ⟨b, n, c, k⟩ := g
  have h4 : (Geo.mk b n c k).in4 = (inB b 64 1024 && inB n 4 64 && inB c 1 8 && inB k 16 110) := rfl
  generalize (Geo.mk b n c k).all = al at *
  generalize (Geo.mk b n c k).from_ = fr at *
  have HG := Kp.mk hg
  have H4 := Kp.mk h4
  clear hg h4
  unfold Geo.val at *
  dsimp only at *
  cases ha : inB b 64 1024 with
  | false =>
    go_enter Try.func5, Try.ntmps5
    go_wp2_with (go_at_call 23; refine (in_calls _ _ _ _).mono ?_; rintro e w1 ⟨rfl, rfl⟩)
    go_ret
    exact ⟨by rw [HG.out, H4.out, ha]; rfl, (Below.refl _ _).alloc (Nat.le_refl _) _⟩
  | true =>
    cases hb : inB n 4 64 with
    | false =>
      go_enter Try.func5, Try.ntmps5
      go_wp2_with (go_at_call 23; refine (in_calls _ _ _ _).mono ?_; rintro e w1 ⟨rfl, rfl⟩)
      go_ret
      exact ⟨by rw [HG.out, H4.out, ha, hb]; rfl, (Below.refl _ _).alloc (Nat.le_refl _) _⟩
    | true =>
      cases hc : inB c 1 8 with
      | false =>
        go_enter Try.func5, Try.ntmps5
        go_wp2_with (go_at_call 23; refine (in_calls _ _ _ _).mono ?_; rintro e w1 ⟨rfl, rfl⟩)
        go_ret
        exact ⟨by rw [HG.out, H4.out, ha, hb, hc]; rfl, (Below.refl _ _).alloc (Nat.le_refl _) _⟩
      | true =>
        cases hd : inB k 16 110 with
        | false =>
          go_enter Try.func5, Try.ntmps5
          go_wp2_with (go_at_call 23; refine (in_calls _ _ _ _).mono ?_; rintro e w1 ⟨rfl, rfl⟩)
          go_ret
          exact ⟨by rw [HG.out, H4.out, ha, hb, hc, hd]; rfl, (Below.refl _ _).alloc (Nat.le_refl _) _⟩
        | true =>
          have h4 : (Geo.mk b n c k).in4 = true := by rw [H4.out, ha, hb, hc, hd]; rfl
          have HDD := Kp.mk (HD.out h4)
          clear HD h4
          go_enter Try.func5, Try.ntmps5
          go_wp2_with (go_at_call 23; refine (in_calls _ _ _ _).mono ?_; rintro e w1 ⟨rfl, rfl⟩)
          refine (HDD.out _).mono ?_
          rintro e w1 ⟨rfl, hbb⟩
          have HB := Kp.mk hbb
          clear hbb
          go_wp2_with fail
          go_ret
          refine ⟨?_, ((Below.refl _ _).alloc (Nat.le_refl _) _).trans (HB.out.mono (by simp))⟩
          rw [HG.out, H4.out, ha, hb, hc, hd]
          simp

def Geo.data (g : Geo) : Int × Int := if g.good then (g.from_, g.all) else (0, 0)

theorem data_calls (g : Geo) (w : World) : Calls Try.prog 8 #[g.val] w fun e w' => e = .returned (.tuple #[.int .i64 g.data.1, .int .i64 g.data.2]) ∧ Below w.heap.size w w' := by
  have hg := fun W => good_calls g W
  have HGD := Kp.mk hg
  clear hg
  have hd := fun (h : g.in4 = true) W => gdata_calls g W h
  have HD := Kp.mk hd
  clear hd
  have h4 : g.good = true → g.in4 = true := by unfold Geo.good; simp +contextual
  have hdt : g.data = if g.good then (g.from_, g.all) else (0, 0) := rfl
  obtain ⟨b, n, c, k⟩ := g
  generalize (Geo.mk b n c k).data = dt at *
  generalize (Geo.mk b n c k).from_ = fr at *
  generalize (Geo.mk b n c k).all = al at *
  cases hgd : (Geo.mk b n c k).good with
  | false =>
    rw [hgd] at hdt
    have hdt' : dt = (0, 0) := hdt
    subst hdt'
    have HG := Kp.mk hgd
    clear hgd hdt h4
    unfold Geo.val at *
    dsimp only at *
    go_enter Try.func8, Try.ntmps8
    go_wp2_with fail
    refine (HGD.out _).mono ?_
    rintro e w1 ⟨rfl, hb⟩
    rw [HG.out]
    have HB := Kp.mk hb
    clear hb
    go_wp2_with fail
    go_ret2
    exact ⟨rfl, ((Below.refl _ _).alloc (Nat.le_refl _) _).trans (HB.out.mono (by simp))⟩
  | true =>
    rw [hgd] at hdt
    have hdt' : dt = (fr, al) := hdt
    subst hdt'
    have H4 := Kp.mk (h4 hgd)
    have HG := Kp.mk hgd
    clear hgd hdt h4
    unfold Geo.val at *
    dsimp only at *
    go_enter Try.func8, Try.ntmps8
    go_wp2_with fail
    refine (HGD.out _).mono ?_
    rintro e w1 ⟨rfl, hb⟩
    rw [HG.out]
    have hcb : w1.cell? ⟨w.heap.size, 0, none⟩ = some (.int .i64 b) ∧ w1.cell? ⟨w.heap.size, 1, none⟩ = some (.int .i64 n) ∧ w1.cell? ⟨w.heap.size, 2, none⟩ = some (.int .i64 c) ∧ w1.cell? ⟨w.heap.size, 3, none⟩ = some (.int .i64 k) := by
      refine ⟨?_, ?_, ?_, ?_⟩ <;> (rw [hb.cell (by show w.heap.size < _; simp)]; simp)
    obtain ⟨hb0, hb1, hb2, hb3⟩ := hcb
    have HB := Kp.mk hb
    clear hb
    go_wp2_with fail
    refine (HD.out H4.out _).mono ?_
    rintro e w2 ⟨rfl, hbb⟩
    have HB2 := Kp.mk hbb
    clear hbb
    go_wp2_with fail
    go_ret2
    exact ⟨rfl, below_then (((Below.refl _ _).alloc (Nat.le_refl _) _).trans (HB.out.mono (by simp))) HB2.out⟩

/-- A plain geometry. -/
theorem plain_calls (b : Int) (w : World) : Calls Try.prog 22 #[.int .i64 b] w fun e w' => e = .returned (Geo.mk b 10 1 20).val ∧ Below w.heap.size w w' := by
  unfold Geo.val
  go_enter Try.func22, Try.ntmps22
  go_wp2
  exact bodyPost_ret (v := .agg #[.int .i64 b, .int .i64 10, .int .i64 1, .int .i64 20]) (by simp [results, Try.results22, go_sem]) rfl ⟨rfl, (Below.refl _ _).alloc (Nat.le_refl _) _⟩
end Go.Proofs.Ytdjnadnmlcpaaaa
