import Derived.Test.YtdjnadnmlcpaaaaStSwap
/-! slices.rotate at runs of blocks. -/
namespace Go.Proofs.Ytdjnadnmlcpaaaa
open Go.Shelf Go.RowKit Go.Lib Go.Sort

structure Turned (a m b : Nat) (d d' : Array (Int × Int)) : Prop where
  size : d'.size = d.size
  perm : PermIn a b d d'
  rot : ∀ k, d'[k]! = rotF (fun x => d[x]!) a m b k

structure Half (a m b i j : Nat) (d dk : Array (Int × Int)) : Prop where
  size : dk.size = d.size
  perm : PermIn a b d dk
  rot : ∀ k, rotF (fun x => dk[x]!) (m - i) m (m + j) k = rotF (fun x => d[x]!) a m b k
  o : a ≤ m - i ∧ i ≤ m ∧ m + j ≤ b ∧ 1 ≤ i ∧ 1 ≤ j ∧ b ≤ d.size

theorem Half.left {a m b i j : Nat} {d dk : Array (Int × Int)} (h : Half a m b i j d dk) (hij : j < i) : Half a m b (i - j) j d (swR dk (m - i) m j) := by
  obtain ⟨hs, hp, hr, o1, o2, o3, o4, o5, o6⟩ := h
  refine ⟨by rw [swR_size, hs], permIn_trans _ _ _ _ _ hp (swR_perm _ _ _ _ _ _ o1 (by omega) o3 (by omega)), fun k => ?_, by omega, by omega, o3, by omega, o5, o6⟩
  rw [← hr k]
  exact rotF_left _ _ m i j o2 hij (fun k => swR_get dk (m - i) m j (by omega) (by omega) k) k

theorem Half.right {a m b i j : Nat} {d dk : Array (Int × Int)} (h : Half a m b i j d dk) (hij : i < j) : Half a m b i (j - i) d (swR dk (m - i) (m + j - i) i) := by
  obtain ⟨hs, hp, hr, o1, o2, o3, o4, o5, o6⟩ := h
  refine ⟨by rw [swR_size, hs], permIn_trans _ _ _ _ _ hp (swR_perm _ _ _ _ _ _ o1 (by omega) (by omega) (by omega)), fun k => ?_, by omega, by omega, by omega, by omega, by omega, o6⟩
  rw [← hr k]
  exact rotF_right _ _ m i j o2 hij (fun k => swR_get dk (m - i) (m + j - i) i (by omega) (by omega) k) k

theorem Half.last {a m b i : Nat} {d dk : Array (Int × Int)} (h : Half a m b i i d dk) : Turned a m b d (swR dk (m - i) m i) := by
  obtain ⟨hs, hp, hr, o1, o2, o3, o4, o5, o6⟩ := h
  refine ⟨by rw [swR_size, hs], permIn_trans _ _ _ _ _ hp (swR_perm _ _ _ _ _ _ o1 (by omega) o3 (by omega)), fun k => ?_⟩
  rw [← hr k]
  exact rotF_same _ _ m i o2 (fun k => swR_get dk (m - i) m i (by omega) (by omega) k) k

set_option maxHeartbeats 1000000 in
set_option maxRecDepth 100000 in
theorem rotR_calls (g : Nat) (cb : Array Value) (blk off cap a m b : Nat) (d0 d : Array (Int × Int)) (w0 w : World)
    (R : RowK encR 2 w0 blk off d0) (hs : d0.size = d.size) (S : SWK encR 2 w0 blk off d w) (ham : a < m) (hmb : m < b) (hb : b ≤ d.size) (hsz : d.size < 4611686018427387904) :
    Calls Try.prog 51 #[.slice (some ⟨blk, off, none⟩) d.size cap, .int .i64 a, .int .i64 m, .int .i64 b, .func (.func g) #[] cb] w fun e w' => e = .returned (.tuple #[]) ∧ ∃ d', Turned a m b d d' ∧ SWK encR 2 w0 blk off d' w' := by
  have S0 : Aside (SWK encR 2 w0 blk off d w) := S
  have r1 : IntKind.i64.wrap ((m : Int) - (a : Int)) = ((m - a : Nat) : Int) := by rw [IntKind.wrap_i64] <;> omega
  have r2 : IntKind.i64.wrap ((b : Int) - (m : Int)) = ((b - m : Nat) : Int) := by rw [IntKind.wrap_i64] <;> omega
  have H0 : Kp (Half a m b (m - a) (b - m) d d) := ⟨⟨rfl, permIn_refl _ _ _, fun k => by rw [show m - (m - a) = a by omega, show m + (b - m) = b by omega], by omega, by omega, by omega, by omega, by omega, hb⟩⟩
  clear S
  go_enter Try.func51, Try.ntmps51
  go_wp2_with fail
  go_loopg [10, 11] (b) (fun kx s10 s11 wr => ∃ (i j : Nat) (dk : Array (Int × Int)), s10 = .int .i64 i ∧ s11 = .int .i64 j ∧ i + j ≤ kx ∧ Kp (Half a m b i j d dk) ∧ Aside (SWK encR 2 w0 blk off dk wr))
  case atStart => exact ⟨m - a, b - m, d, by first | rfl | (rw [r1]) | (simp; omega), by first | rfl | (rw [r2]) | (simp; omega), by omega, H0, S0⟩
  case round =>
    clear S0 H0 r1 r2
    obtain ⟨i, j, dk, rfl, rfl, hkx, H1, S1⟩ := hrel
    obtain ⟨o1, o2, o3, o4, o5, o6⟩ := H1.out.o
    have hsd : dk.size = d.size := H1.out.size
    rcases Nat.lt_trichotomy i j with hij | hij | hij
    · have t1 : decide ((i : Int) = (j : Int)) = false := decide_eq_false (by omega)
      have t2 : ¬ (i : Int) = (j : Int) := by omega
      have t3 : ¬ (j : Int) < (i : Int) := by omega
      go_wp2_with fail
      rw [show (m : Int) - (i : Int) = ((m - i : Nat) : Int) by omega, show (m : Int) + (j : Int) - (i : Int) = ((m + j - i : Nat) : Int) by omega, ← hsd]
      refine (swapR_calls g cb blk off cap (m - i) (m + j - i) i d0 dk w0 wr R (by omega) S1.out (by omega) (by omega) (by omega)).mono ?_
      rintro e w1 ⟨rfl, S2⟩
      have H2 : Kp _ := ⟨H1.out.right hij⟩
      have S3 : Aside _ := S2
      clear S2 S1 H1
      go_wp2_with fail
      go_roundg (i + (j - i))
      case measure => omega
      case rel => exact ⟨i, j - i, _, rfl, by first | rfl | go_num | (simp; omega), by omega, H2, S3⟩
    · subst hij
      go_wp2_with fail
      rw [show (m : Int) - (i : Int) = ((m - i : Nat) : Int) by omega, ← hsd]
      refine (swapR_calls g cb blk off cap (m - i) m i d0 dk w0 wr R (by omega) S1.out (by omega) (by omega) (by omega)).mono ?_
      rintro e w1 ⟨rfl, S2⟩
      have H2 : Kp _ := ⟨H1.out.last⟩
      have S3 : Aside _ := S2
      clear S2 S1 H1
      go_wp2_with fail
      go_end0
      exact ⟨rfl, _, H2.out, S3⟩
    · have t1 : decide ((i : Int) = (j : Int)) = false := decide_eq_false (by omega)
      have t2 : ¬ (i : Int) = (j : Int) := by omega
      have t3 : (j : Int) < (i : Int) := by omega
      go_wp2_with fail
      rw [show (m : Int) - (i : Int) = ((m - i : Nat) : Int) by omega, ← hsd]
      refine (swapR_calls g cb blk off cap (m - i) m j d0 dk w0 wr R (by omega) S1.out (by omega) (by omega) (by omega)).mono ?_
      rintro e w1 ⟨rfl, S2⟩
      have H2 : Kp _ := ⟨H1.out.left hij⟩
      have S3 : Aside _ := S2
      clear S2 S1 H1
      go_wp2_with fail
      go_roundg ((i - j) + j)
      case measure => omega
      case rel => exact ⟨i - j, j, _, by first | rfl | go_num | (simp; omega), rfl, by omega, H2, S3⟩
end Go.Proofs.Ytdjnadnmlcpaaaa
