import Derived.Test.YtdjnadnmlcpaaaaStSymB
import Derived.Deep.DeepCutAuto
/-! slices.symMerge at runs of blocks, whole. -/
namespace Go.Proofs.Ytdjnadnmlcpaaaa
open Go.Shelf Go.RowKit Go.Lib Go.Sort

theorem SymIn.at {g : Nat} {cb : Array Value} {blk off : Nat} {cf : Int × Int → Int × Int → Int} {d0 d d' : Array (Int × Int)} {w0 : World} (I : SymIn g cb blk off cf d0 d w0) (h : d'.size = d.size) : SymIn g cb blk off cf d0 d' w0 :=
  ⟨I.R, by rw [h]; exact I.hs, I.hC, I.hS, I.eg, by rw [h]; exact I.hsz⟩

structure Win (a m b mid s0 r0 : Nat) : Prop where
  o : a ≤ s0 ∧ s0 ≤ r0 ∧ r0 ≤ m ∧ r0 ≤ mid ∧ mid + m ≤ b + s0 ∧ a < mid ∧ mid < b
  s : s0 = a ∨ mid + m = b + s0
  r : r0 = m ∨ mid = r0

set_option maxHeartbeats 2000000 in
set_option maxRecDepth 100000 in
theorem symG_calls (g : Nat) (cb : Array Value) (blk off cap a m b : Nat) (cf : Int × Int → Int × Int → Int) (d0 d : Array (Int × Int)) (w0 w : World)
    (I : SymIn g cb blk off cf d0 d w0) (S : SWK encR 2 w0 blk off d w) (ham : a + 1 < m) (hmb : m + 1 < b) (hb : b ≤ d.size) (hl : SortedIn (ltOf cf) a m d) (hr : SortedIn (ltOf cf) m b d)
    (IH : ∀ (a' m' b' : Nat) (d' : Array (Int × Int)) (w' : World), b' - a' < b - a → d'.size = d.size → SWK encR 2 w0 blk off d' w' → a' < m' → m' < b' → b' ≤ b → SortedIn (ltOf cf) a' m' d' → SortedIn (ltOf cf) m' b' d' →
      Calls Try.prog 48 #[.slice (some ⟨blk, off, none⟩) d.size cap, .int .i64 a', .int .i64 m', .int .i64 b', .func (.func g) #[] cb] w' fun e w' => e = .returned (.tuple #[]) ∧ ∃ d'', SymOut cf a' b' d' d'' ∧ SWK encR 2 w0 blk off d'' w') :
    Calls Try.prog 48 #[.slice (some ⟨blk, off, none⟩) d.size cap, .int .i64 a, .int .i64 m, .int .i64 b, .func (.func g) #[] cb] w fun e w' => e = .returned (.tuple #[]) ∧ ∃ d', SymOut cf a b d d' ∧ SWK encR 2 w0 blk off d' w' := by
  have mixed := Try.sortR.mixed
  have S0 : Aside (SWK encR 2 w0 blk off d w) := S
  have eg := I.eg
  have hsz := I.hsz
  have HR : Kp _ := ⟨hr⟩
  have HL : Kp _ := ⟨hl⟩
  have HI : Kp _ := ⟨I⟩
  have HIH : Kp _ := ⟨IH⟩
  clear S hr I hl IH
  have t0 : ((m : Int) - (a : Int) == 1) = false := by simp; omega
  have t1 : ((b : Int) - (m : Int) == 1) = false := by simp; omega
  obtain ⟨mid, hmid⟩ : ∃ h, h = (a + b) / 2 := ⟨_, rfl⟩
  obtain ⟨n, hn⟩ : ∃ h, h = mid + m := ⟨_, rfl⟩
  have r1 : (IntKind.i64.wrap ((a : Int) + (b : Int))) = ((a + b : Nat) : Int) := by rw [IntKind.wrap_i64] <;> omega
  have r2 : (IntKind.u64.wrap ((a : Int) + (b : Int))) = ((a + b : Nat) : Int) := by rw [IntKind.wrap_u64] <;> omega
  have r3 : ((a : Int) + (b : Int)) / 2 = (mid : Int) := by omega
  have r4 : (mid : Int) + (m : Int) = (n : Int) := by omega
  have hN : Kp (n = mid + m ∧ mid = (a + b) / 2) := ⟨hn, hmid⟩
  have hmb2 : a < mid ∧ mid < b := by omega
  clear hn hmid
  go_enter Try.func48, Try.ntmps48
  go_upto_if 140 with fail
  go_cut [20, 21] (fun s20 s21 wx => ∃ s0 r0 : Nat, s20 = .int .i64 s0 ∧ s21 = .int .i64 r0 ∧ Kp (Win a m b mid s0 r0) ∧ wx = w)
  case first =>
    by_cases hmm : mid < m
    · have hmz : (mid : Int) < (m : Int) := by omega
      go_wp2_with fail
      go_meet
      case rel => 
        obtain ⟨h1, h2⟩ := hN.out
        exact ⟨n - b, mid, by first | rfl | go_num | (simp; omega), rfl, ⟨⟨by omega, by omega, by omega, by omega, by omega, by omega, by omega⟩, Or.inr (by omega), Or.inr rfl⟩, rfl⟩
    · have hmz : ¬ (mid : Int) < (m : Int) := by omega
      go_wp2_with fail
      go_meet
      case rel => 
        obtain ⟨h1, h2⟩ := hN.out
        exact ⟨a, m, by first | rfl | go_num | (simp; omega), rfl, ⟨⟨by omega, by omega, by omega, by omega, by omega, by omega, by omega⟩, Or.inl rfl, Or.inl rfl⟩, rfl⟩
  case rest =>
    obtain ⟨s0, r0, rfl, rfl, HW, rfl⟩ := hcut
    have hW := HW.out.o
    go_wp2_with fail
    go_loopg [20, 21] (b) (fun kx s20 s21 wr => ∃ (s r : Nat), s20 = .int .i64 s ∧ s21 = .int .i64 r ∧ r - s ≤ kx ∧ s0 ≤ s ∧ s ≤ r ∧ r ≤ r0 ∧ Kp (s = s0 ∨ ltOf cf d[n - s]! d[s - 1]! = false) ∧ Kp (r = r0 ∨ ltOf cf d[n - 1 - r]! d[r]! = true) ∧ Aside (SWK encR 2 w0 blk off d wr))
    case atStart => exact ⟨s0, r0, by first | rfl | go_num | (simp; omega), by first | rfl | go_num | (simp; omega), by omega, by omega, by omega, by omega, ⟨Or.inl rfl⟩, ⟨Or.inl rfl⟩, S0⟩
    case round =>
      clear S0
      obtain ⟨i, j, rfl, rfl, hkx, o1, o2, o3, Hi, Hj, S1⟩ := hrel
      by_cases hij : i < j
      · have hijz : (i : Int) < (j : Int) := by omega
        obtain ⟨h, hh⟩ : ∃ h, h = (i + j) / 2 := ⟨_, rfl⟩
        have r1 : (IntKind.i64.wrap ((i : Int) + (j : Int))) = ((i + j : Nat) : Int) := by rw [IntKind.wrap_i64] <;> omega
        have r2 : (IntKind.u64.wrap ((i : Int) + (j : Int))) = ((i + j : Nat) : Int) := by rw [IntKind.wrap_u64] <;> omega
        have r3 : ((i : Int) + (j : Int)) / 2 = (h : Int) := by omega
        have hN' := hN.out
        obtain ⟨q, hq⟩ : ∃ q, q = n - 1 - h := ⟨_, rfl⟩
        have oh : i ≤ h ∧ h < j ∧ h < d.size ∧ q < d.size := by omega
        have q1 : (n : Int) - 1 - (h : Int) = (q : Int) := by omega
        have r5 : IntKind.i64.wrap (q : Int) = (q : Int) := by rw [IntKind.wrap_i64] <;> omega
        have oh1 : (h : Int) < (d.size : Int) := by omega
        have oh2 : (q : Int) < (d.size : Int) := by omega
        have hnq : n - (h + 1) = q := by omega
        obtain ⟨lh1, lh2⟩ := encR_cellsG HI.out.R S1.out (by rw [HI.out.hs]) h oh.2.2.1
        obtain ⟨la1, la2⟩ := encR_cellsG HI.out.R S1.out (by rw [HI.out.hs]) q oh.2.2.2
        have hcg := fun n os => S1.out.cmp HI.out.hC (by rw [HI.out.hs]) d[q]! d[h]! n os
        have hlt : Kp (ltOf cf d[q]! d[h]! = decide (cf d[q]! d[h]! < 0)) := ⟨rfl⟩
        generalize cf d[q]! d[h]! = c at hcg hlt
        simp only [encR] at hcg
        generalize d[h]! = x at hcg lh1 lh2
        generalize d[q]! = y at hcg la1 la2
        have S2 : ∀ n os, Aside (SWK encR 2 w0 blk off d (grow (wr.drewN n) os)) := fun n os => S1.out.grown n os
        have S3 : Kp _ := ⟨S2⟩
        have HQ : Kp (n - (h + 1) = q ∧ q = n - 1 - h) := ⟨hnq, hq⟩
        clear S2 S1 hh hN' hq hnq
        by_cases hc : c < 0
        · have hcd : decide (c < 0) = true := by simp; omega
          go_wp2_with fail
          go_quiet_grown (first | (go_at_fn g; refine Calls.grown_of (hcg _ _)))
          clear hcg lh1 lh2 la1 la2
          go_wp2_with fail
          go_roundg (h - i)
          case measure => omega
          case rel => exact ⟨i, h, rfl, by first | rfl | go_num | (simp; omega), by omega, by omega, by omega, by omega, Hi, ⟨Or.inr (by rw [← HQ.out.2, hlt.out]; exact decide_eq_true hc)⟩, S3.out _ _⟩
        · have hcd : decide (c < 0) = false := by simp; omega
          go_wp2_with fail
          go_quiet_grown (first | (go_at_fn g; refine Calls.grown_of (hcg _ _)))
          clear hcg lh1 lh2 la1 la2
          go_wp2_with fail
          go_roundg (j - (h + 1))
          case measure => omega
          case rel => exact ⟨h + 1, j, by first | rfl | go_num | (simp; omega), rfl, by omega, by omega, by omega, by omega, ⟨Or.inr (by rw [Nat.add_sub_cancel, HQ.out.1, hlt.out]; exact decide_eq_false (by omega))⟩, Hj, S3.out _ _⟩
      · have hijz : ¬ (i : Int) < (j : Int) := by omega
        have : i = j := by omega
        subst this
        have hN' := hN.out
        obtain ⟨e, he⟩ : ∃ e, e = n - i := ⟨_, rfl⟩
        have q1 : (n : Int) - (i : Int) = (e : Int) := by omega
        have HC : Kp ((i = a ∨ e = b ∨ ltOf cf d[e]! d[i - 1]! = false) ∧ (i = m ∨ e = m ∨ ltOf cf d[i]! d[e - 1]! = false) ∧ mid = i + (e - m)) := by
          refine ⟨?_, ?_, by omega⟩
          · rcases Hi.out with h | h
            · rcases HW.out.s with h2 | h2
              · exact Or.inl (by omega)
              · exact Or.inr (Or.inl (by omega))
            · exact Or.inr (Or.inr (by rw [he]; exact h))
          · rcases Hj.out with h | h
            · rcases HW.out.r with h2 | h2
              · exact Or.inl (by omega)
              · exact Or.inr (Or.inl (by omega))
            · exact Or.inr (Or.inr (by rw [he, show n - i - 1 = n - 1 - i by omega]; exact HI.out.hS.asymmA h))
        have HO : Kp (a ≤ i ∧ i ≤ m ∧ m ≤ e ∧ e ≤ b) := ⟨by omega⟩
        clear hN' he Hi Hj HW
        go_upto_region 39 with fail
        go_cut [185] from 178 to 185 (fun s185 wx => s185 = .bool (decide (i < m ∧ m < e)) ∧ wx = wr)
        case first =>
          by_cases c1 : i < m
          · have c1z : (i : Int) < (m : Int) := by omega
            by_cases c2 : m < e
            · have c2z : (m : Int) < (e : Int) := by omega
              go_wp2_with fail
              go_meet
              case rel => exact ⟨congrArg Value.bool (decide_eq_true (p := i < m ∧ m < e) (by omega)).symm, rfl⟩
            · have c2z : ¬ (m : Int) < (e : Int) := by omega
              go_wp2_with fail
              go_meet
              case rel => exact ⟨congrArg Value.bool (decide_eq_false (p := i < m ∧ m < e) (by omega)).symm, rfl⟩
          · have c1z : ¬ (i : Int) < (m : Int) := by omega
            go_wp2_with fail
            go_meet
            case rel => exact ⟨congrArg Value.bool (decide_eq_false (p := i < m ∧ m < e) (by omega)).symm, rfl⟩
        case rest =>
          obtain ⟨rfl, rfl⟩ := hcut
          obtain ⟨p1, p2, p3, p4⟩ := HO.out
          -- the rotation
          go_upto_if 185 with fail
          go_cut [] from 178 to 191 (fun wx => Kp (∃ d1, Turned i m e d d1 ∧ SWK encR 2 w0 blk off d1 wx))
          case first =>
            by_cases hrot : i < m ∧ m < e
            · simp only [hrot, and_self, decide_true]
              go_wp2_with fail
              refine (rotR_calls g cb blk off cap i m e d0 d w0 _ HI.out.R HI.out.hs S1.out hrot.1 hrot.2 (by omega) (by omega)).mono ?_
              rintro e1 w1 ⟨rfl, S2⟩
              have S3 : Kp _ := ⟨S2⟩
              clear S2
              go_wp2_with fail
              go_meet
              case rel => exact S3
            · have hrd : decide (i < m ∧ m < e) = false := decide_eq_false hrot
              rw [hrd]
              go_wp2_with fail
              go_meet
              case rel =>
                refine ⟨⟨d, ⟨rfl, permIn_refl _ _ _, fun k => ?_⟩, S1.out⟩⟩
                by_cases h1 : i < m
                · have : e = m := by omega
                  rw [this]; exact (rotF_idR (fun x => d[x]!) i m k (by omega)).symm
                · have : i = m := by omega
                  rw [this]; exact (rotF_idL (fun x => d[x]!) m e k).symm
          case rest =>
            clear S1
            obtain ⟨d1, T1, S1⟩ := hcut.out
            obtain ⟨c1, c2, hme⟩ := HC.out
            have P1 : Parts (ltOf cf) a i m e b d := ⟨⟨p1, p2, p3, p4⟩, HL.out, HR.out⟩
            have CR := P1.cross HI.out.hS T1.rot c1 c2
            obtain ⟨e1, e2, e3, e4, s1, s2, s3, s4⟩ := P1.rot HI.out.hS T1.rot
            rw [← hme] at CR s2 s3
            have hd1 : d1.size = d.size := T1.size
            have KP1 : Kp (PermIn a b d d1) := ⟨permIn_mono _ _ _ _ _ _ p1 p4 hb T1.perm⟩
            have KS : Kp (SortedIn (ltOf cf) a i d1 ∧ SortedIn (ltOf cf) i mid d1 ∧ SortedIn (ltOf cf) mid e d1 ∧ SortedIn (ltOf cf) e b d1) := ⟨s1, s2, s3, s4⟩
            have KC : Kp _ := ⟨CR⟩
            have KW : Kp (SWK encR 2 w0 blk off d1 wc) := ⟨S1⟩
            have oim : i ≤ mid ∧ mid ≤ e := by omega
            clear hcut S1 P1 CR e1 e2 e3 e4 s1 s2 s3 s4 T1 HC c1 c2 hme
            obtain ⟨wo, hwo⟩ : ∃ wo, wo = wc := ⟨_, rfl⟩
            rw [← hwo] at KW ⊢
            clear hwo wc
            -- the left half
            go_upto_region 41 with fail
            go_cut [199] from 192 to 199 (fun s199 wx => s199 = .bool (decide (a < i ∧ i < mid)) ∧ wx = wo)
            case first =>
              by_cases c1 : a < i
              · have c1z : (a : Int) < (i : Int) := by omega
                by_cases c2 : i < mid
                · have c2z : (i : Int) < (mid : Int) := by omega
                  go_wp2_with fail
                  go_meet
                  case rel => exact ⟨congrArg Value.bool (decide_eq_true (p := a < i ∧ i < mid) (by omega)).symm, rfl⟩
                · have c2z : ¬ (i : Int) < (mid : Int) := by omega
                  go_wp2_with fail
                  go_meet
                  case rel => exact ⟨congrArg Value.bool (decide_eq_false (p := a < i ∧ i < mid) (by omega)).symm, rfl⟩
              · have c1z : ¬ (a : Int) < (i : Int) := by omega
                go_wp2_with fail
                go_meet
                case rel => exact ⟨congrArg Value.bool (decide_eq_false (p := a < i ∧ i < mid) (by omega)).symm, rfl⟩
            case rest =>
              obtain ⟨rfl, rfl⟩ := hcut
              go_upto_if 199 with fail
              go_cut [] from 192 to 205 (fun wx => Kp (∃ d2, SymOut cf a mid d1 d2 ∧ SWK encR 2 w0 blk off d2 wx))
              case first =>
                by_cases hc : a < i ∧ i < mid
                · simp only [hc, and_self, decide_true]
                  go_wp2_with fail
                  refine (HIH.out a i mid d1 _ (by omega) hd1 KW.out hc.1 hc.2 (by omega) KS.out.1 KS.out.2.1).mono ?_
                  rintro e1 w1 ⟨rfl, S2⟩
                  have S3 : Kp _ := ⟨S2⟩
                  clear S2
                  go_wp2_with fail
                  go_meet
                  case rel => exact S3
                · have hrd : decide (a < i ∧ i < mid) = false := decide_eq_false hc
                  rw [hrd]
                  go_wp2_with fail
                  go_meet
                  case rel =>
                    refine ⟨⟨d1, ⟨rfl, permIn_refl _ _ _, ?_⟩, KW.out⟩⟩
                    by_cases h1 : a < i
                    · have : i = mid := by omega
                      rw [← this]; exact KS.out.1
                    · have : i = a := by omega
                      rw [← this]; exact KS.out.2.1
              case rest =>
                clear KW
                obtain ⟨d2, T2, S2⟩ := hcut.out
                have KW2 : Kp (SWK encR 2 w0 blk off d2 wc) := ⟨S2⟩
                have hd2 : d2.size = d.size := by rw [T2.size, hd1]
                have KT : Kp _ := ⟨T2⟩
                have s3 : SortedIn (ltOf cf) mid e d2 := srtSame KS.out.2.2.1 fun x h1 _ => T2.perm.2.1 x (Or.inr h1)
                have s4 : SortedIn (ltOf cf) e b d2 := srtSame KS.out.2.2.2 fun x h1 _ => T2.perm.2.1 x (Or.inr (by omega))
                have KS2 : Kp (SortedIn (ltOf cf) mid e d2 ∧ SortedIn (ltOf cf) e b d2) := ⟨s3, s4⟩
                clear hcut S2 T2 s3 s4 KS
                obtain ⟨wo, hwo⟩ : ∃ wo, wo = wc := ⟨_, rfl⟩
                rw [← hwo] at KW2 ⊢
                clear hwo wc
                -- the right half
                go_upto_region 43 with fail
                go_cut [213] from 206 to 213 (fun s213 wx => s213 = .bool (decide (mid < e ∧ e < b)) ∧ wx = wo)
                case first =>
                  by_cases c1 : mid < e
                  · have c1z : (mid : Int) < (e : Int) := by omega
                    by_cases c2 : e < b
                    · have c2z : (e : Int) < (b : Int) := by omega
                      go_wp2_with fail
                      go_meet
                      case rel => exact ⟨congrArg Value.bool (decide_eq_true (p := mid < e ∧ e < b) (by omega)).symm, rfl⟩
                    · have c2z : ¬ (e : Int) < (b : Int) := by omega
                      go_wp2_with fail
                      go_meet
                      case rel => exact ⟨congrArg Value.bool (decide_eq_false (p := mid < e ∧ e < b) (by omega)).symm, rfl⟩
                  · have c1z : ¬ (mid : Int) < (e : Int) := by omega
                    go_wp2_with fail
                    go_meet
                    case rel => exact ⟨congrArg Value.bool (decide_eq_false (p := mid < e ∧ e < b) (by omega)).symm, rfl⟩
                case rest =>
                  obtain ⟨rfl, rfl⟩ := hcut
                  have DONE : ∀ d3, SymOut cf mid b d2 d3 → SymOut cf a b d d3 := fun d3 h => by
                    have := crossDone (by rw [hd1]; exact hb) KT.out.size (by omega) KT.out.perm h.perm KT.out.srt h.srt KC.out
                    exact ⟨by rw [h.size, hd2], permIn_trans _ _ _ _ _ KP1.out this.1, this.2⟩
                  have KD : Kp _ := ⟨DONE⟩
                  clear DONE
                  by_cases hc : mid < e ∧ e < b
                  · simp only [hc, and_self, decide_true]
                    go_wp2_with fail
                    refine (HIH.out mid e b d2 _ (by omega) hd2 KW2.out hc.1 hc.2 (by omega) KS2.out.1 KS2.out.2).mono ?_
                    rintro e1 w1 ⟨rfl, S2⟩
                    have S3 : Kp _ := ⟨S2⟩
                    clear S2
                    go_wp2_with fail
                    go_end0
                    obtain ⟨d3, T3, S4⟩ := S3.out
                    exact ⟨rfl, d3, KD.out d3 T3, S4⟩
                  · have hrd : decide (mid < e ∧ e < b) = false := decide_eq_false hc
                    rw [hrd]
                    go_wp2_with fail
                    go_end0
                    refine ⟨rfl, d2, KD.out d2 ⟨rfl, permIn_refl _ _ _, ?_⟩, KW2.out⟩
                    by_cases h1 : mid < e
                    · have : e = b := by omega
                      rw [← this]; exact KS2.out.1
                    · have : mid = e := by omega
                      rw [this]; exact KS2.out.2
end Go.Proofs.Ytdjnadnmlcpaaaa
