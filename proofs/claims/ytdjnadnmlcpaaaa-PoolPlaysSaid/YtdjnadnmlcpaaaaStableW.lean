import Derived.Test.YtdjnadnmlcpaaaaStable
/-! slices.stable; slices.SortStableFunc at runs of blocks: the walks. -/
namespace Go.Proofs.Ytdjnadnmlcpaaaa
open Go.Shelf Go.RowKit Go.Lib Go.Sort

/-- The rest still in smaller blocks. -/
structure Rest (cf : Int × Int → Int × Int → Int) (n bs q : Nat) (d' : Array (Int × Int)) : Prop where
  hi : ∀ a, bs ∣ a → q ≤ a → SortedIn (ltOf cf) a (min (a + bs) n) d'

set_option maxHeartbeats 2000000 in
set_option maxRecDepth 100000 in
theorem stabR_calls (g : Nat) (cb : Array Value) (blk off cap : Nat) (cf : Int × Int → Int × Int → Int) (d0 d : Array (Int × Int)) (w0 w : World)
    (I : SymIn g cb blk off cf d0 d w0) (S : SWK encR 2 w0 blk off d w) :
    Calls Try.prog 42 #[.slice (some ⟨blk, off, none⟩) d.size cap, .int .i64 d.size, .func (.func g) #[] cb] w fun e w' => e = .returned (.tuple #[]) ∧ ∃ d', SymOut cf 0 d.size d d' ∧ SWK encR 2 w0 blk off d' w' := by
  have S0 : Aside (SWK encR 2 w0 blk off d w) := S
  have hsz := I.hsz
  have HI : Kp _ := ⟨I⟩
  have H0 : Kp (LumpsTo cf d.size 20 0 d d) := ⟨⟨rfl, permIn_refl _ _ _, fun a _ h => by omega⟩⟩
  clear S I
  go_enter Try.func42, Try.ntmps42
  go_wp2_with fail
  go_loopg [7, 8] (d.size) (fun kx s7 s8 wr => ∃ (q : Nat) (dk : Array (Int × Int)), s7 = .int .i64 q ∧ s8 = .int .i64 ((q : Int) + 20) ∧ q ≤ d.size ∧ d.size - q ≤ kx ∧ Kp (20 ∣ q ∧ LumpsTo cf d.size 20 q d dk) ∧ Aside (SWK encR 2 w0 blk off dk wr))
  case atStart => exact ⟨0, d, rfl, rfl, by omega, by omega, ⟨⟨0, rfl⟩, H0.out⟩, S0⟩
  case round =>
    clear S0 H0
    obtain ⟨q, dk, rfl, rfl, hq, hkx, HL, S1⟩ := hrel
    have hds : dk.size = d.size := HL.out.2.size
    by_cases hlt : q + 20 ≤ d.size
    · have hltz : (q : Int) + 20 ≤ (d.size : Int) := by omega
      have KW : Kp (SWK encR 2 w0 blk off dk wr) := ⟨S1⟩
      have KD : Kp _ := ⟨hds⟩
      clear S1 hds
      go_wp2_with fail
      rw [← KD.out, show (q : Int) + 20 = ((q + 20 : Nat) : Int) by omega]
      refine (insB_calls g cb blk off cap q (q + 20) cf d0 dk w0 wr (HI.out.at KD.out) KW.out (by omega) (by rw [KD.out]; exact hlt)).mono ?_
      rintro e w1 ⟨rfl, S2⟩
      obtain ⟨d2, T2, S3⟩ := S2
      have S4 : Aside (SWK encR 2 w0 blk off d2 w1) := S3
      have HL2 : Kp (20 ∣ q + 20 ∧ LumpsTo cf d.size 20 (q + 20) d d2) := ⟨Nat.dvd_add HL.out.1 ⟨1, rfl⟩, HL.out.2.next HL.out.1 (by omega) hlt (Nat.le_refl _) T2⟩
      rw [KD.out]
      clear T2 S3 KW HL
      go_wp2_with fail
      go_roundg (d.size - (q + 20))
      case measure => omega
      case rel => exact ⟨q + 20, d2, by first | rfl | go_num | (simp; omega), by first | rfl | go_num | (simp; omega), by omega, by omega, HL2, S4⟩
    · have hltz : ¬ (q : Int) + 20 ≤ (d.size : Int) := by omega
      have KW : Kp (SWK encR 2 w0 blk off dk wr) := ⟨S1⟩
      have KD : Kp _ := ⟨hds⟩
      clear S1 hds
      go_wp2_with fail
      rw [← KD.out]
      refine (insB_calls g cb blk off cap q dk.size cf d0 dk w0 wr (HI.out.at KD.out) KW.out (by rw [KD.out]; exact hq) (Nat.le_refl _)).mono ?_
      rintro e w1 ⟨rfl, S2⟩
      obtain ⟨d2, T2, S3⟩ := S2
      have S4 : Aside (SWK encR 2 w0 blk off d2 w1) := S3
      have HL2 : Kp (Lumps cf d.size 20 d d2) := ⟨HL.out.2.done HL.out.1 (by omega) hq (by omega) (Nat.le_refl _) (by rw [← KD.out]; exact T2)⟩
      rw [KD.out]
      obtain ⟨wo, hwo⟩ : ∃ wo, wo = w1 := ⟨_, rfl⟩
      rw [← hwo] at S4 ⊢
      clear T2 S3 KW HL KD hwo w1 wr
      go_wp2_with fail
      go_loopg [6] (d.size + 20) (fun ky s6 wr => ∃ (bs : Nat) (dk : Array (Int × Int)), s6 = .int .i64 bs ∧ 1 ≤ bs ∧ bs ≤ 20 + 2 * d.size ∧ d.size + 20 - bs ≤ ky ∧ Kp (Lumps cf d.size bs d dk) ∧ Aside (SWK encR 2 w0 blk off dk wr))
      case atStart => exact ⟨20, d2, rfl, by omega, by omega, by omega, HL2, S4⟩
      case round =>
        clear S4 HL2
        obtain ⟨bs, dk, rfl, hb1, hb2, hky, HL, S1⟩ := hrel
        by_cases hbn : bs < d.size
        · have hbz : (bs : Int) < (d.size : Int) := by omega
          obtain ⟨wo, hwo⟩ : ∃ wo, wo = wr := ⟨_, rfl⟩
          rw [← hwo] at S1 ⊢
          clear hwo wr
          have hdd : dk.size = d.size := HL.out.size
          have H0 : Kp (LumpsTo cf d.size (2 * bs) 0 d dk ∧ Rest cf d.size bs 0 dk) := ⟨⟨HL.out.size, HL.out.perm, fun a _ h => by omega⟩, ⟨fun a h _ => HL.out.srt a h⟩⟩
          go_wp2_with fail
          go_loopg [7, 8] (d.size) (fun kx s7 s8 wr => ∃ (q : Nat) (dj : Array (Int × Int)), s7 = .int .i64 q ∧ s8 = .int .i64 ((q : Int) + 2 * (bs : Int)) ∧ q ≤ d.size ∧ d.size - q ≤ kx ∧ Kp (2 * bs ∣ q ∧ LumpsTo cf d.size (2 * bs) q d dj ∧ Rest cf d.size bs q dj) ∧ Aside (SWK encR 2 w0 blk off dj wr))
          case atStart => exact ⟨0, dk, rfl, by first | rfl | go_num | (simp; omega), by omega, by omega, ⟨⟨0, rfl⟩, H0.out⟩, S1⟩
          case round =>
            clear S1 H0 HL hdd
            obtain ⟨q, dj, rfl, rfl, hq, hkx, HL, S1⟩ := hrel
            have hds : dj.size = d.size := HL.out.2.1.size
            have hbq : bs ∣ q := Nat.dvd_trans ⟨2, Nat.mul_comm 2 bs⟩ HL.out.1
            have KQ : Kp (bs ∣ q) := ⟨hbq⟩
            have KW : Kp (SWK encR 2 w0 blk off dj wr) := ⟨S1⟩
            have KD : Kp _ := ⟨hds⟩
            clear hbq hds S1
            by_cases hlt : q + 2 * bs ≤ d.size
            · have hltz : (q : Int) + 2 * (bs : Int) ≤ (d.size : Int) := by omega
              go_wp2_with fail
              rw [← KD.out, show (q : Int) + (bs : Int) = ((q + bs : Nat) : Int) by omega, show (q : Int) + 2 * (bs : Int) = ((q + 2 * bs : Nat) : Int) by omega]
              have x1 : SortedIn (ltOf cf) q (q + bs) dj := by have := HL.out.2.2.hi q KQ.out (Nat.le_refl _); rwa [Nat.min_eq_left (by omega)] at this
              have x2 : SortedIn (ltOf cf) (q + bs) (q + 2 * bs) dj := by
                have := HL.out.2.2.hi (q + bs) (Nat.dvd_add KQ.out ⟨1, by rw [Nat.mul_one]⟩) (by omega)
                rwa [Nat.min_eq_left (by omega), show q + bs + bs = q + 2 * bs by omega] at this
              refine (symR_calls g cb blk off cap cf d0 w0 _ q (q + bs) (q + 2 * bs) dj wr (Nat.le_refl _) (HI.out.at KD.out) KW.out (by omega) (by omega) (by rw [KD.out]; exact hlt) x1 x2).mono ?_
              rintro e w1 ⟨rfl, S2⟩
              obtain ⟨d2, T2, S3⟩ := S2
              have S4 : Aside (SWK encR 2 w0 blk off d2 w1) := S3
              have HL2 : Kp (2 * bs ∣ q + 2 * bs ∧ LumpsTo cf d.size (2 * bs) (q + 2 * bs) d d2 ∧ Rest cf d.size bs (q + 2 * bs) d2) :=
                ⟨Nat.dvd_add HL.out.1 ⟨1, by rw [Nat.mul_one]⟩, HL.out.2.1.next HL.out.1 (by omega) hlt (Nat.le_refl _) T2, ⟨fun a ha h => srtSame (HL.out.2.2.hi a ha (by omega)) fun x h1 _ => T2.perm.2.1 x (Or.inr (by omega))⟩⟩
              rw [KD.out, show ((q + bs : Nat) : Int) = (q : Int) + (bs : Int) by omega, show ((q + 2 * bs : Nat) : Int) = (q : Int) + 2 * (bs : Int) by omega]
              clear T2 S3 KW HL x1 x2 KD KQ
              go_wp2_with fail
              go_roundg (d.size - (q + 2 * bs))
              case measure => omega
              case rel => exact ⟨q + 2 * bs, d2, by first | rfl | go_num | (simp; omega), by first | rfl | go_num | (simp; omega), by omega, by omega, HL2, S4⟩
            · have hltz : ¬ (q : Int) + 2 * (bs : Int) ≤ (d.size : Int) := by omega
              by_cases hm : q + bs < d.size
              · have hmz : (q : Int) + (bs : Int) < (d.size : Int) := by omega
                go_wp2_with fail
                rw [← KD.out, show (q : Int) + (bs : Int) = ((q + bs : Nat) : Int) by omega]
                have x1 : SortedIn (ltOf cf) q (q + bs) dj := by have := HL.out.2.2.hi q KQ.out (Nat.le_refl _); rwa [Nat.min_eq_left (by omega)] at this
                have x2 : SortedIn (ltOf cf) (q + bs) dj.size dj := by
                  have := HL.out.2.2.hi (q + bs) (Nat.dvd_add KQ.out ⟨1, by rw [Nat.mul_one]⟩) (by omega)
                  rwa [Nat.min_eq_right (by omega), ← KD.out] at this
                refine (symR_calls g cb blk off cap cf d0 w0 _ q (q + bs) dj.size dj wr (Nat.le_refl _) (HI.out.at KD.out) KW.out (by omega) (by rw [KD.out]; exact hm) (Nat.le_refl _) x1 x2).mono ?_
                rintro e w1 ⟨rfl, S2⟩
                obtain ⟨d2, T2, S3⟩ := S2
                have S4 : Aside (SWK encR 2 w0 blk off d2 w1) := S3
                have HL2 : Kp (Lumps cf d.size (2 * bs) d d2) := ⟨HL.out.2.1.done HL.out.1 (by omega) hq (by omega) (Nat.le_refl _) (by rw [← KD.out]; exact T2)⟩
                rw [KD.out, show ((q + bs : Nat) : Int) = (q : Int) + (bs : Int) by omega]
                clear T2 S3 KW HL x1 x2 KD KQ
                go_wp2_with fail
                go_roundg (d.size + 20 - 2 * bs)
                case measure => omega
                case rel => exact ⟨2 * bs, d2, by first | rfl | go_num | (simp; omega) | (congr 1; omega), by omega, by omega, by omega, HL2, S4⟩
              · have hmz : ¬ (q : Int) + (bs : Int) < (d.size : Int) := by omega
                have x1 : SortedIn (ltOf cf) q d.size dj := by have := HL.out.2.2.hi q KQ.out (Nat.le_refl _); rwa [Nat.min_eq_right (by omega)] at this
                have HL2 : Kp (Lumps cf d.size (2 * bs) d dj) := ⟨HL.out.2.1.done HL.out.1 (by omega) hq (by omega) (Nat.le_refl _) ⟨rfl, permIn_refl _ _ _, x1⟩⟩
                have S4 : Aside (SWK encR 2 w0 blk off dj wr) := KW.out
                clear KW HL x1 KD KQ
                go_wp2_with fail
                go_roundg (d.size + 20 - 2 * bs)
                case measure => omega
                case rel => exact ⟨2 * bs, dj, by first | rfl | go_num | (simp; omega) | (congr 1; omega), by omega, by omega, by omega, HL2, S4⟩
        · have hbz : ¬ (bs : Int) < (d.size : Int) := by omega
          go_wp2_with fail
          go_end0
          have hs := HL.out.srt 0 ⟨0, rfl⟩
          rw [Nat.zero_add, Nat.min_eq_right (by omega)] at hs
          exact ⟨rfl, dk, ⟨HL.out.size, HL.out.perm, hs⟩, S1⟩

/-- slices.SortStableFunc, as far as the pool wants it: sorted, a permutation. -/
theorem stableR_calls (g : Nat) (cb : Array Value) (blk off cap : Nat) (cf : Int × Int → Int × Int → Int) (d : Array (Int × Int)) (w : World)
    (hH : HoldsK encR 2 w blk off d) (hblk : blk < w.heap.size) (hC : CmpLays Try.prog g cb encR 2 cf blk off d.size w) (hS : SWO (ltOf cf)) (eg : ∀ args w, (callFunc g args).run Try.prog w = .ok (.enter g args) w) (hsz : d.size < 1000000000) :
    Calls Try.prog 29 #[.slice (some ⟨blk, off, none⟩) d.size cap, .func (.func g) #[] cb] w fun e w' =>
      e = .returned (.tuple #[]) ∧ ∃ d' n os, PermIn 0 d.size d d' ∧ SortedIn (ltOf cf) 0 d.size d' ∧ w' = sortWorldK encR 2 w blk off n d' os := by
  have hp := stabR_calls g cb blk off cap cf d d w w ⟨⟨encR_len, encR_one, hH, hblk⟩, rfl, hC, hS, eg, hsz⟩ (SWK.start hH)
  clear hH hC hS eg hblk
  go_enter Try.func29, Try.ntmps29
  go_wp2_with (go_at_call 42; refine hp.mono ?_; rintro e w' ⟨rfl, d', T, n, os, rfl⟩)
  go_end0
  exact ⟨rfl, d', n, os, T.perm, T.srt, rfl⟩
#print axioms stableR_calls
end Go.Proofs.Ytdjnadnmlcpaaaa
