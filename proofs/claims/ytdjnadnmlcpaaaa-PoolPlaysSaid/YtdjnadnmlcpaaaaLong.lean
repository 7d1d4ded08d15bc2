import Derived.Test.YtdjnadnmlcpaaaaLongP
import Derived.Test.YtdjnadnmlcpaaaaQuietB
/-! The law's longest. -/
namespace Go.Proofs.Ytdjnadnmlcpaaaa
open Go.RowKit

theorem infoI : (Try.prog.info? 3).map (fun i => (i.zero, i.size, i.bytes)) = some (some (.int .i64 0), 1, 8) := by kernel_rfl
theorem ints_one' (x : Int) : ∀ u ∈ ints .i64 [x], u.oneCell' = true := by
  intro u hu; simp [ints] at hu; subst hu; rfl

/-- The answer of longest. -/
def longV (o : Option Nat) : Value := .tuple #[.int .i64 (match o with | none => 0 | some k => (k : Int)), .bool o.isSome]

set_option maxHeartbeats 4000000 in
set_option maxRecDepth 100000 in
theorem longest_calls (bv : Value) (bs : List Int) (f0 e n most : Int) (R D : List Int) (w : World) (hb : SlI w .u64 bv bs) (hlen : bs.length ≤ 1024) (hf : 1 ≤ f0 ∧ f0 ≤ e ∧ e ≤ 1023) (ht : ∀ k, f0 ≤ k → k < e → thereB bs.length k = true)
    (hR : R = (rowsGo bs e ((e - f0).toNat + 1) f0).map (·.2)) (hD : R.Perm D) (hdesc : D.Pairwise fun x y => y ≤ x) (hDb : ∀ x ∈ D, 1 ≤ x ∧ x ≤ 4096) (hn : 0 ≤ n) (hn' : n ≤ 9223372036854775807) (hm : 1 ≤ most) (hm' : most ≤ 9223372036854775807) :
    Calls Try.prog 10 #[.agg #[bv], .int .i64 f0, .int .i64 e, .int .i64 n, .int .i64 most] w fun r w' => r = .returned (longV (few D n most.toNat)) ∧ Below w.heap.size w w' := by
  obtain ⟨A, cap, hbv, _, _⟩ := hb.form
  subst hbv
  have HB0 := Kp.mk hb
  have HT := Kp.mk ht
  have HD := Kp.mk hD
  have HDE := Kp.mk hdesc
  have HDB := Kp.mk hDb
  have H0 : Kp (Rd bs f0 e R [] 0 f0) := ⟨⟨⟨(e - f0).toNat + 1, by rw [show e - (f0 - 0) = e - f0 by omega]; omega, by rw [hR, show f0 - 0 = f0 by omega, List.nil_append]⟩, fun k h1 h2 => by omega, by omega⟩⟩
  obtain ⟨res, hres⟩ : ∃ res, res = few D n most.toNat := ⟨_, rfl⟩
  rw [← hres]
  have HRES := Kp.mk hres
  obtain ⟨p0, hp0⟩ : ∃ p0, p0 = w.heap.size := ⟨_, rfl⟩
  obtain ⟨w1, hw1⟩ : ∃ w1, w1 = w.alloc (.cells #[.slice A bs.length cap] 33) := ⟨_, rfl⟩
  have HB1 : Kp (Below w.heap.size w w1) := ⟨by rw [hw1]; exact (Below.refl _ _).alloc (Nat.le_refl _) _⟩
  have hs1 : p0 < w1.heap.size := by rw [hw1, hp0]; simp
  have hc1 : w1.cell? ⟨p0, 0, none⟩ = some (.slice A bs.length cap) := by rw [hw1, hp0]; simp
  have HC1 := Kp.mk hc1
  have HP := Kp.mk hp0
  have HW1 := Kp.mk hw1
  clear hb ht hD hdesc hDb hR hres hc1
  go_enter Try.func10, Try.ntmps10
  go_upto_region 1 with fail
  rw [← hp0, ← hw1]
  clear hp0 hw1
  go_wp2_with fail
  go_loopw [12, 13, 14] (fun u x y wr => ∃ (acc : List Int) (r i : Int), x = .int .i64 r ∧ y = .int .i64 i ∧ f0 ≤ i ∧ i ≤ e + 1 ∧ 0 ≤ r ∧ r ≤ i - f0 ∧ (acc.length : Int) ≤ i - f0 ∧ Kp ((i ≤ e ∧ Rd bs f0 e R acc r i) ∨ (i = e + 1 ∧ R = acc)) ∧
      Kp (wr.ownsRow w1.heap.size 3 1 u acc.length (ints .i64 acc)) ∧ Kp (Below w1.heap.size w1 wr))
    (fun _ _ y _ => (e + 1 - intOf y).toNat)
  case atStart => exact ⟨[], 0, f0, rfl, rfl, by omega, by omega, by omega, by omega, by simp, ⟨Or.inl ⟨by omega, H0.out⟩⟩, ⟨World.ownsRow_nil _ _ _ _⟩, ⟨Below.refl _ _⟩⟩
  case round =>
    clear H0
    obtain ⟨acc, r, i, rfl, rfl, o1, o2, o3, o4, o5, HS, HO, HB⟩ := hrel
    have hsz := HB.out.size
    by_cases hie : i ≤ e
    · have HR : Kp (Rd bs f0 e R acc r i) := ⟨by rcases HS.out with h | h; exact h.2; omega⟩
      have ho := HR.out.o
      clear HS
      have hc : wr.cell? ⟨p0, 0, none⟩ = some (.slice A bs.length cap) := (HB.out.cell (by show p0 < w1.heap.size; omega)).trans HC1.out
      -- the end of a round in which a run is told
      by_cases hlt : i < e
      · have hltb : decide (i < e) = true := by simpa using hlt
        have HH : Kp _ := ⟨has_calls (.slice A bs.length cap) bs i wr ((HB0.out.below HB1.out).below HB.out) hlen (by omega) (by omega)⟩
        obtain ⟨hs, hhs⟩ : ∃ hs, hs = hasB bs i := ⟨_, rfl⟩
        rw [← hhs] at HH
        have HHS := Kp.mk hhs
        clear hhs
        go_wp2_with fail
        refine HH.out.mono ?_
        rintro ee w2 ⟨rfl, hb2⟩
        have HO2 := Kp.mk (own_below HO.out hb2)
        have HB2 : Kp (Below w1.heap.size w1 w2) := ⟨HB.out.trans (hb2.mono hsz)⟩
        have hsz2 := HB2.out.size
        clear HO HB hb2 HH hc hsz
        cases hs with
        | false =>
          have HR2 : Kp ((i + 1 ≤ e ∧ Rd bs f0 e R acc (r + 1) (i + 1)) ∨ (i + 1 = e + 1 ∧ R = acc)) := ⟨Or.inl ⟨by omega, HR.out.more hlt HHS.out.symm⟩⟩
          clear HR HHS
          go_wp2_with fail
          exact ⟨⟨acc, r + 1, i + 1, by go_num, by go_num, by omega, by omega, by omega, by omega, by omega, HR2, HO2, HB2⟩, by simp [intOf]; omega⟩
        | true =>
          have HR2 := Kp.mk (HR.out.next HT.out hlt HHS.out.symm)
          clear HR HHS
          by_cases hr : 0 < r
          · have HR3 : Kp ((fun a => (i + 1 ≤ e ∧ Rd bs f0 e R a 0 (i + 1)) ∨ (i + 1 = e + 1 ∧ R = a)) (acc ++ [r])) := ⟨by have := HR2.out; rw [if_pos hr] at this; exact Or.inl ⟨by omega, this⟩⟩
            clear HR2
            go_wp2_with (at_builtin; refine app1 (w0 := w1) w1.heap.size rfl (.tmp 37) (.tmp 39) 76 3 _ 1 8 rfl Try.underlying76 infoI rfl (by decide) _ acc.length (ints .i64 acc) [.int .i64 r] rfl _ rfl ?a0 rfl (ints_one' r) ?aO ?aB ?a1 ?a2 ?a3 ?_)
            case a0 => simp
            case aO => exact HO2.out
            case aB => exact HB2.out
            case a1 => first | omega | (simp; omega)
            case a2 => omega
            case a3 => omega
            rintro v1 w4 HO4 HB4 HG4
            clear HG4
            go_wp2_with fail
            exact ⟨⟨acc ++ [r], 0, i + 1, by go_num, by go_num, by omega, by omega, by omega, by omega, by simp; omega, HR3, ⟨by rw [ints_append, List.length_append]; exact HO4.out⟩, HB4⟩, by simp [intOf]; omega⟩
          · have HR3 : Kp ((fun a => (i + 1 ≤ e ∧ Rd bs f0 e R a 0 (i + 1)) ∨ (i + 1 = e + 1 ∧ R = a)) acc) := ⟨by have := HR2.out; rw [if_neg hr] at this; exact Or.inl ⟨by omega, this⟩⟩
            clear HR2
            go_wp2_with fail
            exact ⟨⟨acc, 0, i + 1, by go_num, by go_num, by omega, by omega, by omega, by omega, by omega, HR3, HO2, HB2⟩, by simp [intOf]; omega⟩
      · have hltb : decide (i < e) = false := by simpa using hlt
        have HR2 := Kp.mk (HR.out.last HT.out (by omega))
        clear HR hc
        by_cases hr : 0 < r
        · have HR3 : Kp ((fun a => (i + 1 ≤ e ∧ Rd bs f0 e R a 0 (i + 1)) ∨ (i + 1 = e + 1 ∧ R = a)) (acc ++ [r])) := ⟨by have := HR2.out; rw [if_pos hr] at this; exact Or.inr ⟨by omega, this⟩⟩
          clear HR2
          go_wp2_with (at_builtin; refine app1 (w0 := w1) w1.heap.size rfl (.tmp 37) (.tmp 39) 76 3 _ 1 8 rfl Try.underlying76 infoI rfl (by decide) _ acc.length (ints .i64 acc) [.int .i64 r] rfl _ rfl ?d0 rfl (ints_one' r) ?dO ?dB ?d1 ?d2 ?d3 ?_)
          case d0 => simp
          case dO => exact HO.out
          case dB => exact HB.out
          case d2 => omega
          case d3 => omega
          rintro v1 w4 HO4 HB4 HG4
          clear HG4
          go_wp2_with fail
          exact ⟨⟨acc ++ [r], 0, i + 1, by go_num, by go_num, by omega, by omega, by omega, by omega, by simp; omega, HR3, ⟨by rw [ints_append, List.length_append]; exact HO4.out⟩, HB4⟩, by simp [intOf]; omega⟩
        · have HR3 : Kp ((fun a => (i + 1 ≤ e ∧ Rd bs f0 e R a 0 (i + 1)) ∨ (i + 1 = e + 1 ∧ R = a)) acc) := ⟨by have := HR2.out; rw [if_neg hr] at this; exact Or.inr ⟨by omega, this⟩⟩
          clear HR2
          go_wp2_with fail
          exact ⟨⟨acc, 0, i + 1, by go_num, by go_num, by omega, by omega, by omega, by omega, by omega, HR3, HO, HB⟩, by simp [intOf]; omega⟩
    · have HRA : Kp (R = acc) := ⟨by rcases HS.out with h | h; omega; exact h.2⟩
      have HG : Kp (Greed D n most acc n 0) := ⟨Greed.start D acc n most (by rw [← HRA.out]; exact HD.out) HDE.out HDB.out (by omega)⟩
      have hcl : acc.length ≤ 1024 := by omega
      obtain ⟨w5, hw5⟩ : ∃ w5, w5 = wr := ⟨_, rfl⟩
      rw [← hw5] at HO HB ⊢
      have hs5 := HB.out.size
      clear HS HRA hw5 wr hsz
      go_wp2_with fail
      have HU : Kp ((acc.length = 0 ∧ u12 = .slice none 0 0) ∨ ∃ g c', u12 = .slice (some ⟨g, 0, none⟩) acc.length c' ∧ w1.heap.size ≤ g) := ⟨by
        rcases HO.out.2 with ⟨e1, e2⟩ | ⟨g, c', cur, e1, e2, e3⟩
        · exact Or.inl ⟨e2, e1⟩
        · exact Or.inr ⟨g, c', e1, e2⟩⟩
      obtain ⟨L, hL⟩ : ∃ L, L = acc.length := ⟨_, rfl⟩
      rw [← hL] at HU HO hcl
      obtain ⟨A', cap', hu⟩ : ∃ A' cap', u12 = .slice A' L cap' := by
        rcases HU.out with ⟨e1, e2⟩ | ⟨g, c', e1, e2⟩
        · exact ⟨none, 0, by rw [e2, e1]⟩
        · exact ⟨_, _, e1⟩
      subst hu
      have HLL := Kp.mk hL
      clear hL
      go_loopw [3, 15] (fun x y wr => ∃ (cs : List Int) (nn : Int) (k : Nat), x = .int .i64 nn ∧ y = .int .i64 k ∧ -4096 ≤ nn ∧ nn ≤ n ∧ k ≤ 4096 ∧ (0 < nn ∨ k = 0) ∧ cs.length = L ∧ Kp (Greed D n most cs nn k) ∧ Kp (wr.ownsRow w1.heap.size 3 1 (.slice A' L cap') L (ints .i64 cs)) ∧ Kp (Below w1.heap.size w1 wr))
        (fun x _ _ => (intOf x).toNat)
      case atStart => exact ⟨acc, n, 0, rfl, rfl, by omega, by omega, by omega, by omega, HLL.out.symm, HG, HO, HB⟩
      case round =>
        clear HG HO HB hs5
        obtain ⟨cs, nn, k, rfl, rfl, o1, o2, o3, o4, o5, HG, HO, HB⟩ := hrel
        by_cases hpos : 0 < nn
        · obtain ⟨wo, hwo⟩ : ∃ wo, wo = wr := ⟨_, rfl⟩
          rw [← hwo] at HO HB ⊢
          clear hwo wr o4
          have hkD : Kp (k ≤ D.length ∧ D.length = L) := ⟨HG.out.kl, by have := HD.out.length_eq; have h2 := HG.out.perm.length_eq; rw [List.length_append, List.length_drop, List.length_replicate] at h2; have := HG.out.kl; omega⟩
          go_wp2_with fail
          go_loopw [16, 17] (fun x y wr => ∃ (b : Int) (i : Nat), x = .int .i64 b ∧ y = .int .i64 i ∧ i ≤ L ∧ ((i = 0 ∧ b = -1) ∨ (0 ≤ b ∧ b < i)) ∧ Kp (0 ≤ b → ∀ j, j < i → cs.getD j 0 ≤ cs.getD b.toNat 0) ∧ Kp (wr.ownsRow w1.heap.size 3 1 (.slice A' L cap') L (ints .i64 cs)) ∧ Kp (Below w1.heap.size w1 wr))
            (fun _ y _ => L - (intOf y).toNat)
          case atStart => exact ⟨-1, 0, rfl, rfl, by omega, by omega, ⟨fun h => by omega⟩, HO, HB⟩
          case round =>
            clear HO HB
            obtain ⟨b, i2, rfl, rfl, q1, q2, HM, HO, HB⟩ := hrel
            by_cases hlt : i2 < L
            · obtain ⟨g, hgA, hgs⟩ : ∃ g, A' = some ⟨g, 0, none⟩ ∧ w1.heap.size ≤ g := by
                rcases HU.out with ⟨e1, e2⟩ | ⟨g, c', e1, e2⟩
                · omega
                · injection e1 with e1; exact ⟨g, e1, e2⟩
              subst hgA
              have hc := fun (j : Nat) (hj : j < L) => (HO.out.cellAt j (by omega)).trans (ints_get .i64 cs j (by omega))
              have ci := hc i2 hlt
              by_cases hb : 0 ≤ b
              · obtain ⟨bn, rfl⟩ : ∃ bn : Nat, b = bn := ⟨b.toNat, by omega⟩
                have cb := hc bn (by omega)
                have hbb : decide ((bn : Int) < 0) = false := by simp
                have hi' : (i2 : Int) < (L : Int) := by omega
                have hbl : (bn : Int) < (L : Int) := by omega
                have HM' := HM.out hb
                simp only [Int.toNat_natCast] at HM'
                clear hc HM
                have KM1 : Kp (cs.getD bn 0 < cs.getD i2 0 → ∀ j, j < i2 + 1 → cs.getD j 0 ≤ cs.getD i2 0) := ⟨fun h j hj => by
                  rcases Nat.lt_or_ge j i2 with h2 | h2
                  · have := HM' j h2; omega
                  · have : j = i2 := by omega
                    subst this; exact Int.le_refl _⟩
                have KM2 : Kp (¬ cs.getD bn 0 < cs.getD i2 0 → ∀ j, j < i2 + 1 → cs.getD j 0 ≤ cs.getD bn 0) := ⟨fun h j hj => by
                  rcases Nat.lt_or_ge j i2 with h2 | h2
                  · exact HM' j h2
                  · have : j = i2 := by omega
                    subst this; omega⟩
                clear HM'
                generalize hx : cs.getD i2 0 = x at ci KM1 KM2
                generalize hy : cs.getD bn 0 = y at cb KM1 KM2
                have HXY := Kp.mk (And.intro hx hy)
                clear hx hy
                by_cases hgt : y < x
                · have hgb : decide (y < x) = true := by simpa using hgt
                  have KM := Kp.mk (KM1.out hgt)
                  clear KM1 KM2 hgt
                  go_wp2_with fail
                  go_quiet (fail)
                  go_wp2_with fail
                  exact ⟨⟨(i2 : Int), i2 + 1, rfl, by go_num, by omega, by omega, ⟨fun _ => by simp only [Int.toNat_natCast]; rw [HXY.out.1]; exact KM.out⟩, ⟨HO.out⟩, ⟨below_drewN HB.out _⟩⟩, by simp [intOf]; omega⟩
                · have hgb : decide (y < x) = false := by simpa using hgt
                  have KM := Kp.mk (KM2.out hgt)
                  clear KM1 KM2 hgt
                  go_wp2_with fail
                  go_quiet (fail)
                  go_wp2_with fail
                  exact ⟨⟨(bn : Int), i2 + 1, rfl, by go_num, by omega, by omega, ⟨fun _ => by simp only [Int.toNat_natCast]; rw [HXY.out.2]; exact KM.out⟩, ⟨HO.out⟩, ⟨below_drewN HB.out _⟩⟩, by simp [intOf]; omega⟩
              · have hb1 : b = -1 ∧ i2 = 0 := by omega
                obtain ⟨rfl, rfl⟩ := hb1
                clear hc ci
                go_wp2_with fail
                go_quiet (fail)
                go_wp2_with fail
                exact ⟨⟨0, 1, rfl, by go_num, by omega, by omega, ⟨fun _ j hj => (show j = 0 from Nat.lt_one_iff.1 hj) ▸ Int.le_refl _⟩, ⟨HO.out⟩, ⟨below_drewN HB.out _⟩⟩, by simp [intOf]; omega⟩
            · have hiL : i2 = L := by omega
              have HBW : Kp (Below w.heap.size w wr) := ⟨HB1.out.trans (HB.out.mono HB1.out.size)⟩
              have hs7 := HB.out.size
              by_cases hb : 0 ≤ b
              · obtain ⟨bn, rfl⟩ : ∃ bn : Nat, b = bn := ⟨b.toNat, by omega⟩
                obtain ⟨g, hgA, hgs⟩ : ∃ g, A' = some ⟨g, 0, none⟩ ∧ w1.heap.size ≤ g := by
                  rcases HU.out with ⟨e1, e2⟩ | ⟨g, c', e1, e2⟩
                  · omega
                  · injection e1 with e1; exact ⟨g, e1, e2⟩
                subst hgA
                have hbL : bn < L := by omega
                have cb := (HO.out.cellAt bn (by omega)).trans (ints_get .i64 cs bn (by omega))
                have hfr := HO.out.frozenAt bn
                have hbb : decide ((bn : Int) < 0) = false := by simp
                have hbl : (bn : Int) < (L : Int) := by omega
                have hgd : ∀ j (hj : j < cs.length), cs.getD j 0 = cs[j] := fun j hj => by rw [List.getD_eq_getElem?_getD, List.getElem?_eq_getElem hj, Option.getD_some]
                have HMX : Kp ((k < D.length ∧ cs.getD bn 0 = D.getD k 0) ∨ (k = D.length ∧ cs.getD bn 0 = 0)) := ⟨by
                  rw [hgd bn (by omega)]
                  refine HG.out.max (by omega) fun j hj => ?_
                  have := HM.out hb j (by omega)
                  simp only [Int.toNat_natCast] at this
                  rw [hgd j hj, hgd bn (by omega)] at this
                  exact this⟩
                have HST : Kp (k < D.length → cs.getD bn 0 = D.getD k 0 → (k : Int) ≠ most → Greed D n most (cs.set bn 0) (nn - cs.getD bn 0) (k + 1)) := ⟨fun h1 h2 h3 => by
                  rw [h2]; exact HG.out.step hpos (by omega) h1 (by rw [← hgd bn (by omega)]; exact h2) h3⟩
                have hst := HO.out.stored bn (.int .i64 0)
                rw [show (.int .i64 0 : Value) = .int .i64 0 from rfl, ints_set] at hst
                have HST2 := Kp.mk hst
                have hkD' := hkD.out
                have hDk : k < D.length → 1 ≤ D.getD k 0 ∧ D.getD k 0 ≤ 4096 := fun h => HDB.out _ (getD_mem D 0 k h)
                generalize cs.getD bn 0 = x at cb HMX HST
                clear hgd hst hb
                rcases HMX.out with ⟨hk1, hx1⟩ | ⟨hk1, hx1⟩
                · have hDk' := hDk hk1
                  rw [← hx1] at hDk'
                  have hx0 : (x == 0) = false := by simp; omega
                  by_cases hkm : (k : Int) = most
                  · have hkmb : ((k : Int) == most) = true := by simpa using hkm
                    clear HMX HST HST2 hx1 hkD'
                    have KR : Kp (res = none) := ⟨by rw [HRES.out]; exact HG.out.none hpos (Or.inr hkm)⟩
                    clear HG HM hkm hDk
                    go_wp2_with fail
                    go_ret2
                    rw [KR.out]
                    exact ⟨rfl, HBW.out⟩
                  · have hkmb : ((k : Int) == most) = false := by simpa using hkm
                    have HG2 := Kp.mk (HST.out hk1 hx1 hkm)
                    obtain ⟨n2, hn2⟩ : ∃ n2, n2 = nn - x := ⟨_, rfl⟩
                    rw [← hn2] at HG2
                    have hn3 : nn - x = n2 := hn2.symm
                    have hw2 : -4096 ≤ n2 ∧ n2 < nn := by omega
                    have HO2 : Kp ((wr.setCell ⟨g, bn, none⟩ (.int .i64 0)).ownsRow w1.heap.size 3 1 (.slice (some ⟨g, 0, none⟩) L cap') L (ints .i64 (cs.set bn 0))) := ⟨HST2.out.1⟩
                    have HB2 : Kp (Below w1.heap.size w1 (wr.setCell ⟨g, bn, none⟩ (.int .i64 0))) := ⟨HB.out.setCell hgs _⟩
                    have HBW2 : Kp (Below w.heap.size w (wr.setCell ⟨g, bn, none⟩ (.int .i64 0))) := ⟨HB1.out.trans (HB2.out.mono HB1.out.size)⟩
                    have hk5 : k + 1 ≤ 4096 := by omega
                    clear HMX HST HST2 hx1 hkD' hDk hn2 hkm HG HM
                    by_cases hdone : n2 ≤ 0
                    · have KR : Kp (res = some (k + 1)) := ⟨by rw [HRES.out]; exact HG2.out.zero hdone⟩
                      clear HG2
                      go_wp2_with fail
                      go_ret2
                      rw [KR.out]
                      exact ⟨by simp [longV], HBW2.out⟩
                    · go_wp2_with fail
                      exact ⟨⟨cs.set bn 0, n2, k + 1, by first | rfl | go_num, by go_num, by omega, by omega, by omega, by omega, by simp; omega, HG2, HO2, HB2⟩, by simp [intOf]; omega⟩
                · have hx0 : (x == 0) = true := by simp [hx1]
                  clear HMX HST HST2 hkD' hDk
                  have KR : Kp (res = none) := ⟨by rw [HRES.out]; exact HG.out.none hpos (Or.inl hk1)⟩
                  clear HG HM
                  go_wp2_with fail
                  go_ret2
                  rw [KR.out]
                  exact ⟨rfl, HBW.out⟩
              · have hb1 : b = -1 ∧ i2 = 0 := by omega
                have hL0 : L = 0 := by omega
                obtain ⟨hb1, -⟩ := hb1
                subst hb1
                have hkL : k = D.length := by have := hkD.out; omega
                have KR : Kp (res = none) := ⟨by rw [HRES.out]; exact HG.out.none hpos (Or.inl hkL)⟩
                clear HG HM hkL
                go_wp2_with fail
                go_ret2
                rw [KR.out]
                exact ⟨rfl, HBW.out⟩
        · have hk0 : k = 0 := by omega
          subst hk0
          have KR : Kp (res = some 0) := ⟨by rw [HRES.out]; exact HG.out.zero (by omega)⟩
          have HBW : Kp (Below w.heap.size w wr) := ⟨HB1.out.trans (HB.out.mono HB1.out.size)⟩
          clear HG
          go_wp2_with fail
          go_ret2
          rw [KR.out]
          exact ⟨rfl, HBW.out⟩
end Go.Proofs.Ytdjnadnmlcpaaaa
