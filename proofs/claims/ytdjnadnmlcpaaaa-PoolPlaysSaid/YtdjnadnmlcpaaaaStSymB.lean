import Derived.Test.YtdjnadnmlcpaaaaStSymA
/-! slices.symMerge at runs of blocks: the right row has one element. -/
namespace Go.Proofs.Ytdjnadnmlcpaaaa
open Go.Shelf Go.RowKit Go.Lib Go.Sort

structure Bul (a m k : Nat) (d dk : Array (Int × Int)) : Prop where
  size : dk.size = d.size
  perm : PermIn a (m + 1) d dk
  rot : ∀ x, dk[x]! = rotF (fun x => d[x]!) k m (m + 1) x

theorem Bul.step {a m k : Nat} {d dk : Array (Int × Int)} (h : Bul a m (k + 1) d dk) (h1 : a ≤ k) (h2 : k + 1 ≤ m) (h3 : m + 1 ≤ d.size) : Bul a m k d (swp dk (k + 1) k) :=
  ⟨by rw [swp_size, h.size], permIn_trans _ _ _ _ _ h.perm (swp_permIn _ _ _ _ _ (by omega) (by omega) (by omega) (by omega) (by rw [h.size]; exact h3)), bubL h.rot h2 (by rw [h.size]; omega)⟩

set_option maxHeartbeats 2000000 in
set_option maxRecDepth 100000 in
theorem symB_calls (g : Nat) (cb : Array Value) (blk off cap a m : Nat) (cf : Int × Int → Int × Int → Int) (d0 d : Array (Int × Int)) (w0 w : World)
    (I : SymIn g cb blk off cf d0 d w0) (S : SWK encR 2 w0 blk off d w) (ham : a + 1 < m) (hb : m + 1 ≤ d.size) (hr : SortedIn (ltOf cf) a m d) :
    Calls Try.prog 48 #[.slice (some ⟨blk, off, none⟩) d.size cap, .int .i64 a, .int .i64 m, .int .i64 ((m + 1 : Nat) : Int), .func (.func g) #[] cb] w fun e w' => e = .returned (.tuple #[]) ∧ ∃ d', SymOut cf a (m + 1) d d' ∧ SWK encR 2 w0 blk off d' w' := by
  have mixed := Try.sortR.mixed
  have S0 : Aside (SWK encR 2 w0 blk off d w) := S
  have eg := I.eg
  have hsz := I.hsz
  have HR : Kp _ := ⟨hr⟩
  have HI : Kp _ := ⟨I⟩
  clear S hr I
  obtain ⟨b, hm⟩ : ∃ b, b = m + 1 := ⟨_, rfl⟩
  rw [← hm]
  have t0 : (b : Int) - (m : Int) = 1 := by omega
  have t1 : ((m : Int) - (a : Int) == 1) = false := by simp; omega
  have HM : Kp (b = m + 1) := ⟨hm⟩
  have hmd : m < b ∧ m < d.size ∧ b ≤ d.size := by omega
  have hmz : (m : Int) < (d.size : Int) := by omega
  clear hm
  have hbz : (b : Int) ≤ (d.size : Int) := by omega
  go_enter Try.func48, Try.ntmps48
  go_wp2_with fail
  go_loopg [14, 15] (m) (fun kx s10 s11 wr => ∃ (i j : Nat), s10 = .int .i64 i ∧ s11 = .int .i64 j ∧ j - i ≤ kx ∧ a ≤ i ∧ i ≤ j ∧ j ≤ m ∧ Kp (i = a ∨ ltOf cf d[m]! d[i - 1]! = false) ∧ Kp (j = m ∨ ltOf cf d[m]! d[j]! = true) ∧ Aside (SWK encR 2 w0 blk off d wr))
  case atStart => exact ⟨a, m, rfl, rfl, by omega, by omega, by omega, by omega, ⟨Or.inl rfl⟩, ⟨Or.inl rfl⟩, S0⟩
  case round =>
    clear S0
    obtain ⟨i, j, rfl, rfl, hkx, o1, o2, o3, Hi, Hj, S1⟩ := hrel
    by_cases hij : i < j
    · have hijz : (i : Int) < (j : Int) := by omega
      obtain ⟨h, hh⟩ : ∃ h, h = (i + j) / 2 := ⟨_, rfl⟩
      have r1 : (IntKind.i64.wrap ((i : Int) + (j : Int))) = ((i + j : Nat) : Int) := by rw [IntKind.wrap_i64] <;> omega
      have r2 : (IntKind.u64.wrap ((i : Int) + (j : Int))) = ((i + j : Nat) : Int) := by rw [IntKind.wrap_u64] <;> omega
      have r3 : ((i : Int) + (j : Int)) / 2 = (h : Int) := by omega
      have oh : i ≤ h ∧ h < j ∧ h < d.size ∧ m < d.size := by omega
      obtain ⟨lh1, lh2⟩ := encR_cellsG HI.out.R S1.out (by rw [HI.out.hs]) h oh.2.2.1
      obtain ⟨la1, la2⟩ := encR_cellsG HI.out.R S1.out (by rw [HI.out.hs]) m oh.2.2.2
      have hcg := fun n os => S1.out.cmp HI.out.hC (by rw [HI.out.hs]) d[m]! d[h]! n os
      have hlt : Kp (ltOf cf d[m]! d[h]! = decide (cf d[m]! d[h]! < 0)) := ⟨rfl⟩
      generalize cf d[m]! d[h]! = c at hcg hlt
      simp only [encR] at hcg
      generalize d[h]! = x at hcg lh1 lh2
      generalize d[m]! = y at hcg la1 la2
      have oh1 : (h : Int) < (d.size : Int) := by omega
      have oh2 : (m : Int) < (d.size : Int) := by omega
      have S2 : ∀ n os, Aside (SWK encR 2 w0 blk off d (grow (wr.drewN n) os)) := fun n os => S1.out.grown n os
      have S3 : Kp _ := ⟨S2⟩
      clear S2 S1 hh
      by_cases hc : c < 0
      · have hcd : decide (c < 0) = true := by simp; omega
        go_wp2_with fail
        go_quiet_grown (first | (go_at_fn g; refine Calls.grown_of (hcg _ _)))
        clear hcg lh1 lh2 la1 la2
        go_wp2_with fail
        go_roundg (h - i)
        case measure => omega
        case rel => exact ⟨i, h, rfl, by first | rfl | go_num | (simp; omega), by omega, by omega, by omega, by omega, Hi, ⟨Or.inr (by rw [hlt.out]; exact decide_eq_true hc)⟩, S3.out _ _⟩
      · have hcd : decide (c < 0) = false := by simp; omega
        go_wp2_with fail
        go_quiet_grown (first | (go_at_fn g; refine Calls.grown_of (hcg _ _)))
        clear hcg lh1 lh2 la1 la2
        go_wp2_with fail
        go_roundg (j - (h + 1))
        case measure => omega
        case rel => exact ⟨h + 1, j, by first | rfl | go_num | (simp; omega), rfl, by omega, by omega, by omega, by omega, ⟨Or.inr (by rw [Nat.add_sub_cancel, hlt.out]; exact decide_eq_false (by omega))⟩, Hj, S3.out _ _⟩
    · have hijz : ¬ (i : Int) < (j : Int) := by omega
      have : i = j := by omega
      subst this
      go_wp2_with fail
      have H0 : Kp (Bul a m m d d) := ⟨⟨rfl, permIn_refl _ _ _, fun k => (rotF_idL (fun x => d[x]!) m (m + 1) k).symm⟩⟩
      obtain ⟨wo, hwo⟩ : ∃ wo, wo = wr := ⟨_, rfl⟩
      rw [← hwo] at S1 ⊢
      clear hwo wr
      go_loopg [17] (m) (fun ky s13 wr => ∃ (k : Nat) (dk : Array (Int × Int)), s13 = .int .i64 k ∧ k - i ≤ ky ∧ i ≤ k ∧ k ≤ m ∧ Kp (Bul a m k d dk) ∧ Aside (SWK encR 2 w0 blk off dk wr))
      case atStart => exact ⟨m, d, rfl, by omega, by omega, by omega, H0, S1⟩
      case round =>
        clear S1 H0
        obtain ⟨k, dk, rfl, hky, p1, p2, HB, S4⟩ := hrel
        by_cases hki : i < k
        · obtain ⟨k, rfl⟩ : ∃ q, k = q + 1 := ⟨k - 1, by omega⟩
          have hkz : (i : Int) < (k : Int) + 1 := by omega
          have hds : dk.size = d.size := HB.out.size
          have HB2 : Kp (Bul a m k d (swp dk (k + 1) k)) := ⟨HB.out.step (by omega) (by omega) (by omega)⟩
          have S5 : Aside (SWK encR 2 w0 blk off (swp dk (k + 1) k) ((wr.drew.setCells blk (off + (k + 1) * 2) (encR dk[k]!)).setCells blk (off + k * 2) (encR dk[k + 1]!))) := S4.out.swapped HI.out.R (k + 1) k (by omega) (by omega)
          obtain ⟨⟨la0, la1⟩, la2, la3⟩ := encR_cells HI.out.R S4.out (by rw [HI.out.hs, hds]) k (by omega)
          obtain ⟨⟨lb0, lb1⟩, lb2, lb3⟩ := encR_cells HI.out.R S4.out (by rw [HI.out.hs, hds]) (k + 1) (by omega)
          simp only [encR] at S5
          generalize dk[k]! = x at S5 la0 la2
          generalize dk[k + 1]! = y at S5 lb0 lb2
          generalize swp dk (k + 1) k = dn at S5 HB2
          have q1 : (k : Int) < (d.size : Int) := by omega
          have q2 : (k : Int) + 1 < (d.size : Int) := by omega
          have q3 : ((k : Int) + 1).toNat = k + 1 := by omega
          have q5 : (0 : Int) ≤ (k : Int) + 1 := by omega
          clear S4 HB hds
          go_wp2_with fail
          go_region
          all_goals clear la0 la1 la2 la3 lb0 lb1 lb2 lb3
          all_goals go_wp2
          all_goals go_roundg (k - i)
          case measure => omega
          case rel => exact ⟨k, dn, by first | rfl | go_num | (simp; omega), by omega, by omega, by omega, HB2, S5⟩
        · have hkz : ¬ (i : Int) < (k : Int) := by omega
          have : k = i := by omega
          subst this
          go_wp2_with fail
          refine bodyPost_ret (results_none rfl _ _ _) rfl ?_
          have hm := HM.out
          subst hm
          refine ⟨rfl, dk, ⟨HB.out.size, HB.out.perm, ?_⟩, S4.out⟩
          refine Parts.one HI.out.hS (s := k) (m := m) (e := m + 1) (d := d) ⟨⟨by omega, by omega, by omega, by omega⟩, HR.out, fun i j h1 h2 h3 => by omega⟩ HB.out.rot (Or.inr rfl) ?_ (Or.inr (Or.inl rfl)) ?_
          · rcases Hj.out with h | h
            · exact Or.inl h
            · exact Or.inr (Or.inr (HI.out.hS.asymmA h))
          · rcases Hi.out with h | h
            · exact Or.inl h
            · exact Or.inr (Or.inr h)
end Go.Proofs.Ytdjnadnmlcpaaaa
