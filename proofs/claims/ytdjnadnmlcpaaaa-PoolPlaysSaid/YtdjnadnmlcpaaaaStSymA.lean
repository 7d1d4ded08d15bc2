import Derived.Test.YtdjnadnmlcpaaaaStRot
import Derived.Laws.Shifts
/-! slices.symMerge at runs of blocks: the left row has one element. -/
namespace Go.Proofs.Ytdjnadnmlcpaaaa
open Go.Shelf Go.RowKit Go.Lib Go.Sort

/-- What symMerge is told. -/
structure SymIn (g : Nat) (cb : Array Value) (blk off : Nat) (cf : Int × Int → Int × Int → Int) (d0 d : Array (Int × Int)) (w0 : World) : Prop where
  R : RowK encR 2 w0 blk off d0
  hs : d0.size = d.size
  hC : CmpLays Try.prog g cb encR 2 cf blk off d0.size w0
  hS : SWO (ltOf cf)
  eg : ∀ args w, (callFunc g args).run Try.prog w = .ok (.enter g args) w
  hsz : d.size < 1000000000

structure SymOut (cf : Int × Int → Int × Int → Int) (a b : Nat) (d d' : Array (Int × Int)) : Prop where
  size : d'.size = d.size
  perm : PermIn a b d d'
  srt : SortedIn (ltOf cf) a b d'

theorem encR_cellsG {w0 W : World} {blk off : Nat} {d0 dk : Array (Int × Int)} (R : RowK encR 2 w0 blk off d0) (S : SWK encR 2 w0 blk off dk W) (hs : dk.size = d0.size) (p : Nat) (hp : p < dk.size) :
    (∀ n os, (grow (W.drewN n) os).cell? ⟨blk, off + p * 2, none⟩ = some (.int .i64 dk[p]!.1)) ∧ (∀ n os, (grow (W.drewN n) os).cell? ⟨blk, off + p * 2 + 1, none⟩ = some (.int .i64 dk[p]!.2)) :=
  ⟨fun n os => (encR_cells R (S.grown n os) hs p hp).1.1, fun n os => (encR_cells R (S.grown n os) hs p hp).2.1⟩

structure Bub (a b k : Nat) (d dk : Array (Int × Int)) : Prop where
  size : dk.size = d.size
  perm : PermIn a b d dk
  rot : ∀ x, dk[x]! = rotF (fun x => d[x]!) a (a + 1) (k + 1) x

theorem Bub.step {a b k : Nat} {d dk : Array (Int × Int)} (h : Bub a b k d dk) (h1 : a ≤ k) (h2 : k + 1 < b) (h3 : b ≤ d.size) : Bub a b (k + 1) d (swp dk k (k + 1)) :=
  ⟨by rw [swp_size, h.size], permIn_trans _ _ _ _ _ h.perm (swp_permIn _ _ _ _ _ (by omega) (by omega) (by omega) h2 (by rw [h.size]; exact h3)), bubR h.rot h1 (by rw [h.size]; omega)⟩

set_option maxHeartbeats 2000000 in
set_option maxRecDepth 100000 in
theorem symA_calls (g : Nat) (cb : Array Value) (blk off cap a b : Nat) (cf : Int × Int → Int × Int → Int) (d0 d : Array (Int × Int)) (w0 w : World)
    (I : SymIn g cb blk off cf d0 d w0) (S : SWK encR 2 w0 blk off d w) (hmb : a + 1 < b) (hb : b ≤ d.size) (hr : SortedIn (ltOf cf) (a + 1) b d) :
    Calls Try.prog 48 #[.slice (some ⟨blk, off, none⟩) d.size cap, .int .i64 a, .int .i64 ((a + 1 : Nat) : Int), .int .i64 b, .func (.func g) #[] cb] w fun e w' => e = .returned (.tuple #[]) ∧ ∃ d', SymOut cf a b d d' ∧ SWK encR 2 w0 blk off d' w' := by
  have mixed := Try.sortR.mixed
  have S0 : Aside (SWK encR 2 w0 blk off d w) := S
  have eg := I.eg
  have hsz := I.hsz
  have HR : Kp _ := ⟨hr⟩
  have HI : Kp _ := ⟨I⟩
  clear S hr I
  obtain ⟨m, hm⟩ : ∃ m, m = a + 1 := ⟨_, rfl⟩
  rw [← hm]
  have t0 : (m : Int) - (a : Int) = 1 := by omega
  have HM : Kp (m = a + 1) := ⟨hm⟩
  have hmd : m ≤ b ∧ b ≤ d.size := by omega
  clear hm
  have hbz : (b : Int) ≤ (d.size : Int) := by omega
  go_enter Try.func48, Try.ntmps48
  go_wp2_with fail
  go_loopg [10, 11] (b) (fun kx s10 s11 wr => ∃ (i j : Nat), s10 = .int .i64 i ∧ s11 = .int .i64 j ∧ j - i ≤ kx ∧ m ≤ i ∧ i ≤ j ∧ j ≤ b ∧ Kp (i = m ∨ ltOf cf d[i - 1]! d[a]! = true) ∧ Kp (j = b ∨ ltOf cf d[j]! d[a]! = false) ∧ Aside (SWK encR 2 w0 blk off d wr))
  case atStart => exact ⟨m, b, rfl, rfl, by omega, by omega, by omega, by omega, ⟨Or.inl rfl⟩, ⟨Or.inl rfl⟩, S0⟩
  case round =>
    clear S0
    obtain ⟨i, j, rfl, rfl, hkx, o1, o2, o3, Hi, Hj, S1⟩ := hrel
    by_cases hij : i < j
    · have hijz : (i : Int) < (j : Int) := by omega
      obtain ⟨h, hh⟩ : ∃ h, h = (i + j) / 2 := ⟨_, rfl⟩
      have r1 : (IntKind.i64.wrap ((i : Int) + (j : Int))) = ((i + j : Nat) : Int) := by rw [IntKind.wrap_i64] <;> omega
      have r2 : (IntKind.u64.wrap ((i : Int) + (j : Int))) = ((i + j : Nat) : Int) := by rw [IntKind.wrap_u64] <;> omega
      have r3 : ((i : Int) + (j : Int)) / 2 = (h : Int) := by omega
      have oh : i ≤ h ∧ h < j ∧ h < d.size ∧ a < d.size := by omega
      obtain ⟨lh1, lh2⟩ := encR_cellsG HI.out.R S1.out (by rw [HI.out.hs]) h oh.2.2.1
      obtain ⟨la1, la2⟩ := encR_cellsG HI.out.R S1.out (by rw [HI.out.hs]) a oh.2.2.2
      have hcg := fun n os => S1.out.cmp HI.out.hC (by rw [HI.out.hs]) d[h]! d[a]! n os
      have hlt : Kp (ltOf cf d[h]! d[a]! = decide (cf d[h]! d[a]! < 0)) := ⟨rfl⟩
      generalize cf d[h]! d[a]! = c at hcg hlt
      simp only [encR] at hcg
      generalize d[h]! = x at hcg lh1 lh2
      generalize d[a]! = y at hcg la1 la2
      have oh1 : (h : Int) < (d.size : Int) := by omega
      have oh2 : (a : Int) < (d.size : Int) := by omega
      have S2 : ∀ n os, Aside (SWK encR 2 w0 blk off d (grow (wr.drewN n) os)) := fun n os => S1.out.grown n os
      have S3 : Kp _ := ⟨S2⟩
      clear S2 S1 hh
      by_cases hc : c < 0
      · go_wp2_with fail
        go_quiet_grown (first | (go_at_fn g; refine Calls.grown_of (hcg _ _)))
        clear hcg lh1 lh2 la1 la2
        go_wp2_with fail
        go_roundg (j - (h + 1))
        case measure => omega
        case rel => exact ⟨h + 1, j, by first | rfl | go_num | (simp; omega), rfl, by omega, by omega, by omega, by omega, ⟨Or.inr (by rw [Nat.add_sub_cancel, hlt.out]; exact decide_eq_true hc)⟩, Hj, S3.out _ _⟩
      · go_wp2_with fail
        go_quiet_grown (first | (go_at_fn g; refine Calls.grown_of (hcg _ _)))
        clear hcg lh1 lh2 la1 la2
        go_wp2_with fail
        go_roundg (h - i)
        case measure => omega
        case rel => exact ⟨i, h, rfl, by first | rfl | go_num | (simp; omega), by omega, by omega, by omega, by omega, Hi, ⟨Or.inr (by rw [hlt.out]; exact decide_eq_false (by omega))⟩, S3.out _ _⟩
    · have hijz : ¬ (i : Int) < (j : Int) := by omega
      have : i = j := by omega
      subst this
      go_wp2_with fail
      have H0 : Kp (Bub a b a d d) := ⟨⟨rfl, permIn_refl _ _ _, fun k => (rotF_idR (fun x => d[x]!) a (a + 1) k (by omega)).symm⟩⟩
      have wi : IntKind.i64.wrap ((i : Int) - 1) = (i : Int) - 1 := by rw [IntKind.wrap_i64] <;> omega
      have hma : a + 1 ≤ i := by have := HM.out; omega
      obtain ⟨wo, hwo⟩ : ∃ wo, wo = wr := ⟨_, rfl⟩
      rw [← hwo] at S1 ⊢
      clear hwo wr
      go_loopg [13] (i) (fun ky s13 wr => ∃ (k : Nat) (dk : Array (Int × Int)), s13 = .int .i64 k ∧ i - k ≤ ky + 1 ∧ a ≤ k ∧ k + 1 ≤ i ∧ Kp (Bub a b k d dk) ∧ Aside (SWK encR 2 w0 blk off dk wr))
      case atStart => exact ⟨a, d, rfl, by omega, by omega, by omega, H0, S1⟩
      case round =>
        clear S1 H0
        obtain ⟨k, dk, rfl, hky, p1, p2, HB, S4⟩ := hrel
        by_cases hki : k + 1 < i
        · have hkz : (k : Int) < (i : Int) - 1 := by omega
          have hds : dk.size = d.size := HB.out.size
          have HB2 : Kp (Bub a b (k + 1) d (swp dk k (k + 1))) := ⟨HB.out.step p1 (by omega) (by omega)⟩
          have S5 : Aside (SWK encR 2 w0 blk off (swp dk k (k + 1)) ((wr.drew.setCells blk (off + k * 2) (encR dk[k + 1]!)).setCells blk (off + (k + 1) * 2) (encR dk[k]!))) := S4.out.swapped HI.out.R k (k + 1) (by omega) (by omega)
          obtain ⟨⟨la0, la1⟩, la2, la3⟩ := encR_cells HI.out.R S4.out (by rw [HI.out.hs, hds]) k (by omega)
          obtain ⟨⟨lb0, lb1⟩, lb2, lb3⟩ := encR_cells HI.out.R S4.out (by rw [HI.out.hs, hds]) (k + 1) (by omega)
          simp only [encR] at S5
          generalize dk[k]! = x at S5 la0 la2
          generalize dk[k + 1]! = y at S5 lb0 lb2
          generalize swp dk k (k + 1) = dn at S5 HB2
          have q1 : (k : Int) < (d.size : Int) := by omega
          have q2 : (k : Int) + 1 < (d.size : Int) := by omega
          have q3 : ((k : Int) + 1).toNat = k + 1 := by omega
          have q4 : IntKind.i64.wrap ((k : Int) + 1) = (k : Int) + 1 := by rw [IntKind.wrap_i64] <;> omega
          have q5 : (0 : Int) ≤ (k : Int) + 1 := by omega
          clear S4 HB hds
          go_wp2_with fail
          go_region
          all_goals clear la0 la1 la2 la3 lb0 lb1 lb2 lb3
          all_goals go_wp2
          all_goals go_roundg (i - (k + 1 + 1))
          case measure => omega
          case rel => exact ⟨k + 1, dn, by first | rfl | go_num | (simp; omega), by omega, by omega, by omega, HB2, S5⟩
        · have hkz : ¬ (k : Int) < (i : Int) - 1 := by omega
          have : i = k + 1 := by omega
          subst this
          go_wp2_with fail
          refine bodyPost_ret (results_none rfl _ _ _) rfl ?_
          refine ⟨rfl, dk, ⟨HB.out.size, HB.out.perm, ?_⟩, S4.out⟩
          have hm := HM.out
          subst hm
          refine Parts.one HI.out.hS (s := a) (m := a + 1) (e := k + 1) (d := d) ⟨⟨by omega, by omega, by omega, by omega⟩, fun i j h1 h2 h3 => by omega, HR.out⟩ HB.out.rot (Or.inl rfl) ?_ ?_ (Or.inl rfl)
          · rcases Hi.out with h | h
            · exact Or.inr (Or.inl h)
            · exact Or.inr (Or.inr (HI.out.hS.asymmA h))
          · rcases Hj.out with h | h
            · exact Or.inr (Or.inl h)
            · exact Or.inr (Or.inr h)
end Go.Proofs.Ytdjnadnmlcpaaaa
