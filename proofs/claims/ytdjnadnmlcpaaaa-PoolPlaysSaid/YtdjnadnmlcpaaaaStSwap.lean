import Derived.Test.YtdjnadnmlcpaaaaLaySort
import Derived.Test.YtdjnadnmlcpaaaaStPure
import Derived.Test.YtdjnadnmlcpaaaaBase
/-! slices.swapRange and slices.rotate at runs of blocks: exchanges alone. -/
namespace Go.Proofs.Ytdjnadnmlcpaaaa
open Go.Shelf Go.RowKit Go.Lib Go.Sort

def encR (x : Int × Int) : List Value := [.int .i64 x.1, .int .i64 x.2]
theorem encR_len (x : Int × Int) : (encR x).length = 2 := rfl

theorem encR_cells {w0 W : World} {blk off : Nat} {d0 dk : Array (Int × Int)} (R : RowK encR 2 w0 blk off d0) (S : SWK encR 2 w0 blk off dk W) (hs : dk.size = d0.size) (p : Nat) (hp : p < dk.size) :
    (W.cell? ⟨blk, off + p * 2, none⟩ = some (.int .i64 dk[p]!.1) ∧ W.frozen? ⟨blk, off + p * 2, none⟩ = false) ∧ (W.cell? ⟨blk, off + p * 2 + 1, none⟩ = some (.int .i64 dk[p]!.2) ∧ W.frozen? ⟨blk, off + p * 2 + 1, none⟩ = false) :=
  have h := fun c (hc : c < 2) => (S.holds R.hblk R.hH hs).cell (i := p) (c := c) hp hc
  ⟨h 0 (by omega), h 1 (by omega)⟩

set_option maxHeartbeats 1000000 in
set_option maxRecDepth 100000 in
theorem swapR_calls (g : Nat) (cb : Array Value) (blk off cap a b n : Nat) (d0 d : Array (Int × Int)) (w0 w : World)
    (R : RowK encR 2 w0 blk off d0) (hs : d0.size = d.size) (S : SWK encR 2 w0 blk off d w) (hab : a + n ≤ b) (hb : b + n ≤ d.size) (hsz : d.size < 4611686018427387904) :
    Calls Try.prog 61 #[.slice (some ⟨blk, off, none⟩) d.size cap, .int .i64 a, .int .i64 b, .int .i64 n, .func (.func g) #[] cb] w fun e w' => e = .returned (.tuple #[]) ∧ SWK encR 2 w0 blk off (swR d a b n) w' := by
  have mixed := Try.sortR.mixed
  have S0 : Aside (SWK encR 2 w0 blk off d w) := S
  clear S
  go_enter Try.func61, Try.ntmps61
  go_wp2
  go_loopg [10] (n) (fun kx s10 wr => ∃ (i : Nat), s10 = .int .i64 i ∧ i ≤ n ∧ n - i ≤ kx ∧ Aside (SWK encR 2 w0 blk off (swR d a b i) wr))
  case atStart => exact ⟨0, rfl, by omega, by omega, S0⟩
  case round =>
    clear S0
    obtain ⟨i, rfl, hi, hkx, S1⟩ := hrel
    by_cases hlt : i < n
    · have hltz : (i : Int) < (n : Int) := by omega
      go_wp2_with fail
      obtain ⟨p, hp⟩ : ∃ p, p = a + i := ⟨_, rfl⟩
      obtain ⟨q, hq⟩ : ∃ q, q = b + i := ⟨_, rfl⟩
      have hsw : (swR d a b i).size = d.size := swR_size ..
      have hswp : swR d a b (i + 1) = swp (swR d a b i) p q := by rw [hp, hq]; rfl
      generalize swR d a b i = dk at S1 hsw hswp
      have S2 : Aside (SWK encR 2 w0 blk off (swp dk p q) ((wr.drew.setCells blk (off + p * 2) (encR dk[q]!)).setCells blk (off + q * 2) (encR dk[p]!))) := S1.out.swapped R p q (by omega) (by omega)
      obtain ⟨⟨la0, la1⟩, la2, la3⟩ := encR_cells R S1.out (by omega) p (by omega)
      obtain ⟨⟨lb0, lb1⟩, lb2, lb3⟩ := encR_cells R S1.out (by omega) q (by omega)
      simp only [encR] at S2
      generalize dk[p]! = x at S2 la0 la2
      generalize dk[q]! = y at S2 lb0 lb2
      have r1 : IntKind.i64.wrap ((a : Int) + (i : Int)) = (p : Int) := by rw [IntKind.wrap_i64] <;> omega
      have r2 : IntKind.i64.wrap ((b : Int) + (i : Int)) = (q : Int) := by rw [IntKind.wrap_i64] <;> omega
      have b1 : (p : Int) < (d.size : Int) := by omega
      have b2 : (q : Int) < (d.size : Int) := by omega
      have e1 : (p : Int).toNat = p := by omega
      have e2 : (q : Int).toNat = q := by omega
      have p1 : (0 : Int) ≤ (p : Int) := by omega
      have p2 : (0 : Int) ≤ (q : Int) := by omega
      have HH : Kp (swR d a b (i + 1) = swp dk p q) := ⟨hswp⟩
      have np : p < q := by omega
      clear S1 hsw hswp hp hq
      go_region
      clear la0 la1 la2 la3 lb0 lb1 lb2 lb3
      go_wp2
      go_roundg (n - (i + 1))
      case measure => omega
      case rel => exact ⟨i + 1, by go_num, by omega, by omega, by rw [HH.out]; exact S2⟩
    · have hltz : ¬ (i : Int) < (n : Int) := by omega
      have : i = n := by omega
      subst this
      go_wp2
      go_end0
      exact ⟨rfl, S1.out⟩
end Go.Proofs.Ytdjnadnmlcpaaaa
