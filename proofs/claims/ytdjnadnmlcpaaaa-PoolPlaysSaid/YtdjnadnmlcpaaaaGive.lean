import Derived.Test.YtdjnadnmlcpaaaaTakeW
import Derived.Test.YtdjnadnmlcpaaaaApart
/-! (*Pool).Give. -/
namespace Go.Proofs.Ytdjnadnmlcpaaaa
open Go.RowKit

def inD (f0 a0 : Int) (r : Int × Int) : Prop := f0 ≤ r.1 ∧ r.1 - f0 < a0 ∧ r.2 ≤ a0 - (r.1 - f0)
def giveAt (bs : List Int) (f0 a0 : Int) (l : List (Int × Int)) (k : Nat) : Prop :=
  (l.getD k (0, 0)).2 < 1 ∨ (inD f0 a0 (l.getD k (0, 0)) ∧ apartB (counts (l.take (k + 1))) = true ∧ nextB bs false (l.getD k (0, 0)).1 ((l.getD k (0, 0)).1 + (l.getD k (0, 0)).2) = none)
def giveOk (bs : List Int) (g : Geo) (l : List (Int × Int)) : Prop := ∀ k, k < l.length → giveAt bs g.from_ g.all l k

theorem prs_take {w : World} {A : Option Addr} {cap : Nat} {l : List (Int × Int)} (h : SlP w (.slice A l.length cap) l) (k : Nat) (hk : k < l.length) : SlP w (.slice A (k + 1) cap) (l.take (k + 1)) := by
  have hl : (l.take (k + 1)).length = k + 1 := by rw [List.length_take]; omega
  obtain ⟨h1, h2, h3⟩ := h
  unfold SlP
  rw [hl]
  refine ⟨by rw [prs_length, hl], by omega, ?_⟩
  rcases h3 with ⟨h3, h4⟩ | ⟨a, c, h3, h4, h5⟩
  · omega
  · injection h3 with e1 e2 e3
    subst e1 e3
    refine Or.inr ⟨a, cap, rfl, by omega, fun j u hu => h5 j u ?_⟩
    rw [← List.take_append_drop (k + 1) l, prs_append, List.getElem?_append_left (List.getElem?_eq_some_iff.1 hu).1]
    exact hu

set_option maxHeartbeats 2000000 in
set_option maxRecDepth 100000 in
theorem give_calls (q : Nat) (g : Geo) (bv v : Value) (bs : List Int) (l : List (Int × Int)) (w : World) (h : PoolOk w q g bv bs) (hne : bv.ownBlock ≠ some q) (hv : SlP w v l) (hvq : l ≠ [] → v.ownBlock ≠ some q) (hl : l.length ≤ 1000000)
    (hw : g.b ≤ bs.length * 64) (hi : ∀ x ∈ l, (-9223372036854775808 ≤ x.1 ∧ x.1 ≤ 9223372036854775807) ∧ -9223372036854775808 ≤ x.2 ∧ x.2 ≤ 9223372036854775807) :
    Calls Try.prog 18 #[.pointer (some ⟨q, 0, none⟩), v] w fun e w' => (giveOk bs g l ∧ e = .returned (.int .i64 0) ∧ ∃ bv', PoolTo w w' q g bv' (markL bs false l)) ∨ (¬ giveOk bs g l ∧ e = .returned (.int .i64 1) ∧ Below w.heap.size w w') := by
  obtain ⟨A, cap, hv', hcap, hx⟩ := hv.form
  subst hv'
  obtain ⟨gb, -, -, -, ga, gf, ge, gd⟩ := Geo.good_bd h.good
  have HD : Kp _ := ⟨data_calls g w⟩
  rw [gd] at HD
  have HX := Kp.mk hx
  have HV := Kp.mk hv
  have HI := Kp.mk hi
  have HVQ := Kp.mk hvq
  have HNE := Kp.mk hne
  have H := Kp.mk h
  obtain ⟨f0, hf0⟩ : ∃ x, x = g.from_ := ⟨_, rfl⟩
  obtain ⟨a0, ha0⟩ : ∃ x, x = g.all := ⟨_, rfl⟩
  have HG : Kp (f0 = g.from_ ∧ a0 = g.all) := ⟨hf0, ha0⟩
  rw [← hf0, ← ha0] at HD
  have hbd : 1 ≤ f0 ∧ 1 ≤ a0 ∧ f0 + a0 ≤ 1023 := by omega
  obtain ⟨c0, c1, c2, c3, c4⟩ := h.cells
  have hq := h.at_.lt
  have mixed := Try.sortR.mixed
  clear h hne hvq hi hv hx gd hf0 ha0 ge gf ga gb hw
  go_enter Try.func18, Try.ntmps18
  go_wp2_with fail
  refine HD.out.mono ?_
  rintro e w1 ⟨rfl, hb⟩
  have HB : Kp _ := ⟨hb⟩
  clear hb c0 c1 c2 c3 c4 HD
  go_wp2_with fail
  go_loopw [21] (fun i wr => ∃ (k : Nat), k ≤ l.length ∧ i = .int .i64 k ∧ Kp (∀ j, j < k → giveAt bs f0 a0 l j) ∧ Kp (Below w.heap.size w wr))
    (fun i _ => l.length - (intOf i).toNat)
  case atStart => exact ⟨0, Nat.zero_le _, rfl, ⟨fun j hj => by omega⟩, HB⟩
  case round =>
    clear HB
    obtain ⟨k, hk, rfl, HK, HB⟩ := hrel
    by_cases hlt : k < l.length
    · obtain ⟨b, o, rfl, hbb, hc⟩ := HX.out (by omega)
      have hc0 : wr.cell? ⟨b, o + k * 2, none⟩ = some (.int .i64 (l.getD k (0, 0)).1) := (HB.out.cell (by exact hbb)).trans (hc k hlt).1
      have hc1 : wr.cell? ⟨b, o + k * 2 + 1, none⟩ = some (.int .i64 (l.getD k (0, 0)).2) := (HB.out.cell (by exact hbb)).trans (hc k hlt).2
      have hi := HI.out _ (getD_mem l (0, 0) k hlt)
      have HS : Kp (SlP w (.slice (some ⟨b, o, none⟩) (k + 1) cap) (l.take (k + 1))) := ⟨prs_take HV.out k hlt⟩
      have HAT : Kp (giveAt bs f0 a0 l k ↔ ((l.getD k (0, 0)).2 < 1 ∨ (inD f0 a0 (l.getD k (0, 0)) ∧ apartB (counts (l.take (k + 1))) = true ∧ nextB bs false (l.getD k (0, 0)).1 ((l.getD k (0, 0)).1 + (l.getD k (0, 0)).2) = none))) := ⟨Iff.rfl⟩
      have HCN : Kp (cnt (l.getD k (0, 0)) = true → counts (l.take (k + 1)) ≠ []) := ⟨fun hh => by rw [counts_snoc l k hlt, if_pos hh]; simp⟩
      have KBAD : Kp (¬ giveAt bs f0 a0 l k → ¬ giveOk bs g l) := ⟨fun h1 h2 => h1 (by have := h2 k hlt; rwa [← HG.out.1, ← HG.out.2] at this)⟩
      have KGO : Kp (giveAt bs f0 a0 l k → ∀ j, j < k + 1 → giveAt bs f0 a0 l j) := ⟨fun h1 j hj => by
        rcases Nat.lt_or_ge j k with h2 | h2
        · exact HK.out j h2
        · have : j = k := by omega
          subst this; exact h1⟩
      generalize l.getD k (0, 0) = x at *
      obtain ⟨p, n⟩ := x
      dsimp only at hc0 hc1 hi HAT
      have hsz := HB.out.size
      clear hc HK
      -- r
      obtain ⟨wo, hwo⟩ : ∃ wo, wo = wr.alloc (.cells #[.int .i64 p, .int .i64 n] 52) := ⟨_, rfl⟩
      obtain ⟨R, hR⟩ : ∃ R, R = wr.heap.size := ⟨_, rfl⟩
      have HBo : Kp (Below w.heap.size w wo) := ⟨by rw [hwo]; exact HB.out.alloc hsz _⟩
      have hso : w.heap.size ≤ wo.heap.size ∧ R < wo.heap.size := by rw [hwo, hR]; simp; omega
      have hr0 : wo.cell? ⟨R, 0, none⟩ = some (.int .i64 p) := by rw [hwo, hR]; simp
      have hr1 : wo.cell? ⟨R, 1, none⟩ = some (.int .i64 n) := by rw [hwo, hR]; simp
      go_upto_region 5 with fail
      rw [← hwo, ← hR]
      clear hwo hR hc0 hc1 HB
      by_cases h1 : n < 1
      · have KG := Kp.mk (KGO.out (HAT.out.2 (Or.inl h1)))
        clear KGO KBAD HAT HCN HS
        go_wp2_with fail
        exact ⟨⟨k + 1, by omega, by go_num, KG, HBo⟩, by simp [intOf]; omega⟩
      · have h1b : decide (n < 1) = false := by simpa using h1
        by_cases h2 : p < f0
        · have h2b : decide (p < f0) = true := by simpa using h2
          have KB : Kp (¬ giveOk bs g l) := ⟨KBAD.out fun hh => by
            rcases HAT.out.1 hh with hh | ⟨hh1, hh2, hh3⟩
            · omega
            · have := hh1.1; simp only at this; omega⟩
          clear KBAD HAT HCN KGO
          go_wp2_with fail
          go_ret
          exact Or.inr ⟨KB.out, rfl, HBo.out⟩
        · have h2b : decide (p < f0) = false := by simpa using h2
          by_cases h3 : a0 ≤ p - f0
          · have h3b : decide (a0 ≤ p - f0) = true := by simpa using h3
            have KB : Kp (¬ giveOk bs g l) := ⟨KBAD.out fun hh => by
              rcases HAT.out.1 hh with hh | ⟨hh1, hh2, hh3⟩
              · omega
              · have := hh1.2.1; simp only at this; omega⟩
            clear KBAD HAT HCN KGO
            go_wp2_with fail
            go_ret
            exact Or.inr ⟨KB.out, rfl, HBo.out⟩
          · have h3b : decide (a0 ≤ p - f0) = false := by simpa using h3
            by_cases h4 : a0 - (p - f0) < n
            · have h4b : decide (a0 - (p - f0) < n) = true := by simpa using h4
              have KB : Kp (¬ giveOk bs g l) := ⟨KBAD.out fun hh => by
                rcases HAT.out.1 hh with hh | ⟨hh1, hh2, hh3⟩
                · omega
                · have := hh1.2.2; simp only at this; omega⟩
              clear KBAD HAT HCN KGO
              go_wp2_with fail
              go_ret
              exact Or.inr ⟨KB.out, rfl, HBo.out⟩
            · have h4b : decide (a0 - (p - f0) < n) = false := by simpa using h4
              have hcn : cnt (p, n) = true := by unfold cnt; simp; omega
              have HA : Kp _ := ⟨apart_calls _ (l.take (k + 1)) wo (HS.out.below HBo.out) (by rw [List.length_take]; omega) (HCN.out hcn)⟩
              have hs1 : IntKind.i64.wrap ((k : Int) + 1) = ((k + 1 : Nat) : Int) := by rw [IntKind.wrap_i64] <;> omega
              have hcap2 : k + 1 ≤ cap := by omega
              clear HCN HS
              go_wp2_with fail
              refine HA.out.mono ?_
              rintro e w2 ⟨rfl, hb2⟩
              have HB2 : Kp (Below w.heap.size w w2) := ⟨HBo.out.trans (hb2.mono (by omega))⟩
              have gr0 : w2.cell? ⟨R, 0, none⟩ = some (.int .i64 p) := (hb2.cell (by show R < wo.heap.size; omega)).trans hr0
              have gr1 : w2.cell? ⟨R, 1, none⟩ = some (.int .i64 n) := (hb2.cell (by show R < wo.heap.size; omega)).trans hr1
              have gq : w2.cell? ⟨q, 4, none⟩ = some bv := (H.out.below HB2.out).cells.2.2.2.2
              have hs2 : wo.heap.size ≤ w2.heap.size := hb2.size
              obtain ⟨ap, hap⟩ : ∃ ap, ap = apartB (counts (l.take (k + 1))) := ⟨_, rfl⟩
              rw [← hap]
              have HAP := Kp.mk hap
              clear hb2 HA hap hr0 hr1
              cases ap with
              | false =>
                have KB : Kp (¬ giveOk bs g l) := ⟨KBAD.out fun hh => by
                  rcases HAT.out.1 hh with hh | ⟨hh1, hh2, hh3⟩
                  · omega
                  · rw [← HAP.out] at hh2; cases hh2⟩
                clear KBAD HAT KGO
                go_wp2_with fail
                go_ret
                exact Or.inr ⟨KB.out, rfl, HB2.out⟩
              | true =>
                obtain ⟨z, hz⟩ : ∃ z, z = p + n := ⟨_, rfl⟩
                have hz1 : IntKind.i64.wrap (p + n) = z := by rw [hz, IntKind.wrap_i64] <;> omega
                have hN : ∀ p' : BelowOf w2, Calls Try.prog 40 #[.agg #[bv], .bool false, .int .i64 p, .int .i64 z] p'.w fun e w' => e = .returned (.tuple #[.int .i64 ((nextB bs false p z).getD 0), .bool (nextB bs false p z).isSome]) ∧ Below p'.w.heap.size p'.w w' :=
                  fun p' => next_calls bv bs false p z p'.w ((H.out.row.below HB2.out).below p'.h) H.out.len (by omega) (by omega) (by omega) (by omega)
                have fr0 : ∀ p' : BelowOf w2, p'.w.cell? ⟨R, 0, none⟩ = some (.int .i64 p) := cell_bo (by show R < w2.heap.size; omega) gr0
                have fr1 : ∀ p' : BelowOf w2, p'.w.cell? ⟨R, 1, none⟩ = some (.int .i64 n) := cell_bo (by show R < w2.heap.size; omega) gr1
                have fq : ∀ p' : BelowOf w2, p'.w.cell? ⟨q, 4, none⟩ = some bv := cell_bo (by show q < w2.heap.size; have := HB2.out.size; omega) gq
                have HAT2 : Kp (giveAt bs f0 a0 l k ↔ nextB bs false p z = none) := ⟨HAT.out.trans ⟨fun hh => by
                  rcases hh with hh | ⟨_, _, hh3⟩
                  · omega
                  · rw [hz]; exact hh3, fun hh => Or.inr ⟨⟨by simp only; omega, by simp only; omega, by simp only; omega⟩, HAP.out.symm, by rw [← hz]; exact hh⟩⟩⟩
                clear HAT HAP gr0 gr1 gq hz
                obtain ⟨r, hr⟩ : ∃ r, r = nextB bs false p z := ⟨_, rfl⟩
                rw [← hr] at hN HAT2
                clear hr
                go_wp2_with fail
                cases r with
                | none =>
                  simp only [Option.getD_none, Option.isSome_none] at hN
                  (refine wp_region_quiet_below (by assumption) (by kernel_rfl) ?_
                   repeat (quiet_step (first | (go_at_call 40; with_reducible refine Calls.bo (hN _))))
                   refine wpQuiet_nil ?_
                   intro wq hw'
                   obtain ⟨p0, hp0⟩ := hw'
                   have hbq := p0.h
                   rw [← hp0] at hbq
                   clear hp0 p0)
                  clear hN fr0 fr1 fq
                  have KG := Kp.mk (KGO.out (HAT2.out.2 rfl))
                  have HB3 : Kp (Below w.heap.size w wq) := ⟨HB2.out.trans (hbq.mono HB2.out.size)⟩
                  clear KGO KBAD HAT2 hbq
                  go_wp2_with fail
                  exact ⟨⟨k + 1, by omega, by go_num, KG, HB3⟩, by simp [intOf]; omega⟩
                | some r =>
                  simp only [Option.getD_some, Option.isSome_some] at hN
                  (refine wp_region_quiet_below (by assumption) (by kernel_rfl) ?_
                   repeat (quiet_step (first | (go_at_call 40; with_reducible refine Calls.bo (hN _))))
                   refine wpQuiet_nil ?_
                   intro wq hw'
                   obtain ⟨p0, hp0⟩ := hw'
                   have hbq := p0.h
                   rw [← hp0] at hbq
                   clear hp0 p0)
                  clear hN fr0 fr1 fq
                  have KB : Kp (¬ giveOk bs g l) := ⟨KBAD.out fun hh => by cases HAT2.out.1 hh⟩
                  have HB3 : Kp (Below w.heap.size w wq) := ⟨HB2.out.trans (hbq.mono HB2.out.size)⟩
                  clear KGO KBAD HAT2 hbq
                  go_wp2_with fail
                  go_ret
                  exact Or.inr ⟨KB.out, rfl, HB3.out⟩
    · have hke : k = l.length := by omega
      subst hke
      have KO : Kp (giveOk bs g l) := ⟨fun j hj => by have := HK.out j hj; rwa [HG.out.1, HG.out.2] at this⟩
      have HM : Kp _ := ⟨mark_calls q g bv (.slice A l.length cap) bs l false wr (H.out.below HB.out) HNE.out (HV.out.below HB.out) HVQ.out hl (fun x hx h1 => by
        obtain ⟨j, hj, hjx⟩ := List.getElem_of_mem hx
        have h2 := HK.out j hj
        have hgd : l.getD j (0, 0) = x := by rw [List.getD_eq_getElem?_getD, List.getElem?_eq_getElem hj, Option.getD_some, hjx]
        unfold giveAt inD at h2
        rw [hgd] at h2
        omega)⟩
      clear HK
      go_wp2_with fail
      refine HM.out.mono ?_
      rintro e w2 ⟨rfl, bv', hP⟩
      have HP : Kp (PoolTo w w2 q g bv' (markL bs false l)) := ⟨⟨hP.ok, grown_trans (grown_of_below HB.out _) hP.grown, hP.own⟩⟩
      clear hP HM
      go_wp2_with fail
      go_ret
      exact Or.inl ⟨KO.out, rfl, bv', HP.out⟩
end Go.Proofs.Ytdjnadnmlcpaaaa
