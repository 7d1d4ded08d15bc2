/- Contracts of the reference's runs, and of the law's helpers on runs. -/
import Derived.Test.YtdjnadnmlcpaaaaRuns
import Derived.Deep.RegionLaw
namespace Go.Proofs.Ytdjnadnmlcpaaaa
open Go.RowKit

set_option maxHeartbeats 1000000 in
set_option maxRecDepth 100000 in
theorem counts6_calls (v : Value) (l : List (Int × Int)) (w : World) (h : SlP w v l) (hl : l.length ≤ 1000000) :
    Calls Try.prog 36 #[v] w fun e w' => ∃ v', e = .returned v' ∧ w'.ownsRow w.heap.size 80 2 v' (counts l).length (prs (counts l)) ∧ Below w.heap.size w w' := by
  obtain ⟨A, cap, rfl, hcap, hx⟩ := h.form
  have HX := Kp.mk hx
  clear hx h
  go_enter Try.func36, Try.ntmps36
  go_wp2_with fail
  go_loopw [3, 4] (fun u i wr => ∃ k : Nat, k ≤ l.length ∧ i = .int .i64 k ∧ Kp (wr.ownsRow w.heap.size 80 2 u (counts (l.take k)).length (prs (counts (l.take k)))) ∧ Kp (Below w.heap.size w wr))
    (fun _ i _ => l.length - (intOf i).toNat)
  case atStart => exact ⟨0, Nat.zero_le _, rfl, ⟨World.ownsRow_nil _ _ _ _⟩, ⟨Below.refl _ _⟩⟩
  case round =>
    obtain ⟨k, hk, rfl, HO, HB⟩ := hrel
    rename_i u3 _ _
    by_cases hlt : k < l.length
    · obtain ⟨b, o, rfl, hb, hc⟩ := HX.out (by omega)
      have hsn := Kp.mk (counts_snoc l k hlt)
      have hc0 : wr.cell? ⟨b, o + k * 2, none⟩ = some (.int .i64 (l.getD k (0, 0)).1) := (HB.out.cell (by exact hb)).trans (hc k hlt).1
      have hc1 : wr.cell? ⟨b, o + k * 2 + 1, none⟩ = some (.int .i64 (l.getD k (0, 0)).2) := (HB.out.cell (by exact hb)).trans (hc k hlt).2
      clear hc
      generalize l.getD k (0, 0) = x at *
      obtain ⟨p, q⟩ := x
      dsimp only at hc0 hc1
      have hbs := HB.out.size
      have hll : (counts (l.take k)).length ≤ 1000000 := by
        have h1 := counts_len (l.take k)
        have h2 : (l.take k).length ≤ l.length := by rw [List.length_take]; omega
        omega
      cases hcn : cnt (p, q) with
      | true =>
        have hh : ((1 ≤ q ∧ q ≤ 1073741824) ∧ 0 ≤ p) ∧ p ≤ 1073741824 := by simpa [cnt] using hcn
        obtain ⟨⟨⟨h1, h2⟩, h3⟩, h4⟩ := hh
        have HCN := Kp.mk hcn
        clear hcn
        go_wp2_with (at_builtin; refine app1 (w0 := w) w.heap.size rfl _ _ 46 80 _ 2 16 rfl Try.underlying46 infoR6 rfl (by decide) _ (counts (l.take k)).length (prs (counts (l.take k))) [.int .i64 p, .int .i64 q] rfl _ rfl ?c0 rfl (prs_one' (p, q)) ?cO ?cB ?c1 ?c2 ?c3 ?_)
        case c0 => rfl
        case cO => exact HO.out
        case cB => exact HB.out
        case c1 => omega
        case c2 => omega
        case c3 => omega
        rintro v1 w1 HO1 HB1 HG1
        clear HG1
        go_wp2
        exact ⟨⟨k + 1, by omega, by go_num, ⟨by rw [hsn.out, HCN.out, if_pos rfl, prs_append, List.length_append]; exact HO1.out⟩, HB1⟩, by simp [intOf]; omega⟩
      | false =>
        have HCN := Kp.mk hcn
        have hh : ¬ (((1 ≤ q ∧ q ≤ 1073741824) ∧ 0 ≤ p) ∧ p ≤ 1073741824) := by
          intro h
          have : cnt (p, q) = true := by simpa [cnt] using h
          rw [hcn] at this
          cases this
        clear hcn
        have HN : Kp (counts (l.take (k + 1)) = counts (l.take k)) := ⟨by rw [hsn.out, HCN.out]; simp⟩
        have FIN : Kp (wr.ownsRow w.heap.size 80 2 u3 (counts (l.take (k + 1))).length (prs (counts (l.take (k + 1))))) := ⟨by rw [HN.out]; exact HO.out⟩
        by_cases h1 : 1 ≤ q
        · by_cases h3 : 0 ≤ p
          · by_cases h4 : p ≤ 1073741824
            · have h2 : ¬ q ≤ 1073741824 := fun h2 => hh ⟨⟨⟨h1, h2⟩, h3⟩, h4⟩
              clear hh
              go_wp2
              exact ⟨⟨k + 1, by omega, by go_num, FIN, HB⟩, by simp [intOf]; omega⟩
            · clear hh
              go_wp2
              exact ⟨⟨k + 1, by omega, by go_num, FIN, HB⟩, by simp [intOf]; omega⟩
          · clear hh
            go_wp2
            exact ⟨⟨k + 1, by omega, by go_num, FIN, HB⟩, by simp [intOf]; omega⟩
        · clear hh
          go_wp2
          exact ⟨⟨k + 1, by omega, by go_num, FIN, HB⟩, by simp [intOf]; omega⟩
    · have hke : l.take k = l := List.take_of_length_le (by omega)
      rw [hke] at HO
      clear hke
      go_wp2
      go_ret
      exact ⟨_, rfl, HO.out, HB.out⟩

set_option maxHeartbeats 1000000 in
set_option maxRecDepth 100000 in
theorem blocks6_calls (v : Value) (c : List (Int × Int)) (w : World) (h : SlP w v c) (hcl : c.length ≤ 1000000) (hbd : ∀ x ∈ c, 1 ≤ x.2 ∧ x.2 ≤ 1073741824) :
    Calls Try.prog 35 #[.agg #[.int .i64 0, .int .i64 0, .int .i64 0, v]] w fun e w' => e = .returned (.int .i64 (sumL c)) ∧ Below w.heap.size w w' := by
  have HBD := Kp.mk hbd
  obtain ⟨A, cap, rfl, hcap, hx⟩ := h.form
  have HX := Kp.mk hx
  clear hx h hbd
  go_enter Try.func35, Try.ntmps35
  go_wp2_with fail
  go_loopw [3, 4] (fun u i wr => ∃ k : Nat, k ≤ c.length ∧ i = .int .i64 k ∧ u = .int .i64 (sumL (c.take k)) ∧ Kp (Below w.heap.size w wr) ∧ wr.cell? ⟨w.heap.size, 3, none⟩ = some (.slice A c.length cap))
    (fun _ i _ => c.length - (intOf i).toNat)
  case atStart => exact ⟨0, Nat.zero_le _, rfl, by simp [sumL], ⟨(Below.refl _ _).alloc (Nat.le_refl _) _⟩, by simp⟩
  case round =>
    obtain ⟨k, hk, rfl, rfl, HB, hbx⟩ := hrel
    have hs := sumL_take_bd c k hk HBD.out
    by_cases hlt : k < c.length
    · obtain ⟨b, o, rfl, hb, hc⟩ := HX.out (by omega)
      have hsn := Kp.mk (sumL_snoc c k hlt)
      have hmem : c.getD k (0, 0) ∈ c := by rw [List.getD_eq_getElem?_getD, List.getElem?_eq_getElem hlt]; exact List.getElem_mem hlt
      obtain ⟨hq1, hq2⟩ := HBD.out _ hmem
      have hc1 : wr.cell? ⟨b, o + k * 2 + 1, none⟩ = some (.int .i64 (c.getD k (0, 0)).2) := (HB.out.cell (by exact hb)).trans (hc k hlt).2
      clear hc hmem
      generalize c.getD k (0, 0) = x at *
      obtain ⟨p, q⟩ := x
      dsimp only at hc1 hq1 hq2
      have hbs := HB.out.size
      obtain ⟨s0, s1⟩ := hs
      generalize sumL (c.take k) = s at *
      go_wp2
      exact ⟨⟨k + 1, by omega, by go_num, by rw [hsn.out], HB, hbx⟩, by simp [intOf]; omega⟩
    · have hke : c.take k = c := List.take_of_length_le (by omega)
      have HKE := Kp.mk hke
      clear hke hs
      go_wp2
      go_ret
      exact ⟨by simp [HKE.out], HB.out⟩

set_option maxHeartbeats 1000000 in
theorem total6_calls (v : Value) (l : List (Int × Int)) (w : World) (h : SlP w v l) (hl : l.length ≤ 1000000) :
    Calls Try.prog 11 #[v] w fun e w' => e = .returned (.int .i64 (sumL (counts l))) ∧ Below w.heap.size w w' := by
  have H := Kp.mk h
  clear h
  have hcl := counts_len l
  have hbd := Kp.mk (counts_bd l)
  have hcc := counts6_calls v l
  obtain ⟨c, hce⟩ : ∃ c, counts l = c := ⟨_, rfl⟩
  rw [hce] at hcl hbd hcc ⊢
  have HCC := Kp.mk hcc
  clear hce hcc
  go_enter Try.func11, Try.ntmps11
  go_wp2_with fail
  refine (HCC.out _ H.out hl).mono ?_
  rintro e w1 ⟨v', rfl, hown, hb1⟩
  have hsl : SlP w1 v' c := Sl.of_own hown (by omega)
  obtain ⟨A, cap, rfl, _, _⟩ := hsl.form
  have HSL := Kp.mk hsl
  have HB1 := Kp.mk hb1
  clear hsl hown hb1
  go_wp2_with fail
  refine (blocks6_calls _ c w1 HSL.out (by omega) (fun x hx => ⟨(hbd.out x hx).1, (hbd.out x hx).2.1⟩)).mono ?_
  rintro e w2 ⟨rfl, hb2⟩
  have HB2 := Kp.mk hb2
  clear hb2
  go_wp2
  go_ret
  exact ⟨rfl, below_then HB1.out HB2.out⟩

set_option maxHeartbeats 1000000 in
set_option maxRecDepth 100000 in
theorem own12_calls (v : Value) (l : List (Int × Int)) (w : World) (h : SlP w v l) (hl : l.length ≤ 1000000) :
    Calls Try.prog 12 #[v] w fun e w' => ∃ v', e = .returned v' ∧ w'.ownsRow w.heap.size 80 2 v' l.length (prs l) ∧ Below w.heap.size w w' := by
  obtain ⟨A, cap, rfl, hcap, hx⟩ := h.form
  have HX := Kp.mk hx
  clear hx h
  go_enter Try.func12, Try.ntmps12
  go_wp2_with fail
  go_loopw [3, 4] (fun u i wr => ∃ k : Nat, k ≤ l.length ∧ i = .int .i64 k ∧ Kp (wr.ownsRow w.heap.size 80 2 u k (prs (l.take k))) ∧ Kp (Below w.heap.size w wr))
    (fun _ i _ => l.length - (intOf i).toNat)
  case atStart => exact ⟨0, Nat.zero_le _, rfl, ⟨World.ownsRow_nil _ _ _ _⟩, ⟨Below.refl _ _⟩⟩
  case round =>
    obtain ⟨k, hk, rfl, HO, HB⟩ := hrel
    rename_i u3 _ _
    by_cases hlt : k < l.length
    · obtain ⟨b, o, rfl, hb, hc⟩ := HX.out (by omega)
      have hsn := Kp.mk (take_snoc l (0, 0) k hlt)
      have hc0 : wr.cell? ⟨b, o + k * 2, none⟩ = some (.int .i64 (l.getD k (0, 0)).1) := (HB.out.cell (by exact hb)).trans (hc k hlt).1
      have hc1 : wr.cell? ⟨b, o + k * 2 + 1, none⟩ = some (.int .i64 (l.getD k (0, 0)).2) := (HB.out.cell (by exact hb)).trans (hc k hlt).2
      have hw0 := (hc k hlt).1
      have hw1 := (hc k hlt).2
      clear hc
      generalize l.getD k (0, 0) = x at *
      obtain ⟨p, q⟩ := x
      dsimp only at hc0 hc1 hw0 hw1
      have HW := Kp.mk (And.intro hw0 hw1)
      clear hw0 hw1
      have hbs := HB.out.size
      go_wp2_with fail
      go_region_held3 (fun w' => w'.cell? ⟨b, o + k * 2, none⟩ = some (.int .i64 p) ∧ w'.cell? ⟨b, o + k * 2 + 1, none⟩ = some (.int .i64 q))
        (first
          | go_keep
          | exact ⟨(HB1.out.cell (by exact hb)).trans HW.out.1, (HB1.out.cell (by exact hb)).trans HW.out.2⟩)
        ((refine stepApp (w0 := w) w.heap.size (by rfl) (.tmp 11) (.tmp 23) 46 80 _ 2 16 (by rfl) Try.underlying46 infoR6 rfl (by decide) _ k (prs (l.take k)) [.int .i64 p, .int .i64 q] (by rfl) wr.heap.size (by rfl) (by intro j u hu; simpa using hu) rfl (prs_one' (p, q)) ((HO.out.alloc _)) ((HB.out.alloc hbs _).drew) (by simp; omega) (by omega) (by omega) ?_; rintro v1 w1 HO1 HB1 HG1))
      clear HG1
      go_wp2
      exact ⟨⟨k + 1, by omega, by go_num, ⟨by rw [hsn.out, prs_append]; exact HO1.out⟩, HB1⟩, by simp [intOf]; omega⟩
    · have hke : l.take k = l := List.take_of_length_le (by omega)
      obtain rfl : k = l.length := by omega
      rw [hke] at HO
      clear hke
      go_wp2
      go_ret
      exact ⟨_, rfl, HO.out, HB.out⟩

set_option maxHeartbeats 1000000 in
/-- Two rows alike are told alike. -/
theorem alike_calls (v u : Value) (l : List (Int × Int)) (w : World) (h : SlP w v l) (h' : SlP w u l) (hl : l.length ≤ 1000000) :
    Calls Try.prog 13 #[v, u] w fun e w' => e = .returned (.bool true) ∧ Below w.heap.size w w' := by
  obtain ⟨A, cap, rfl, hcap, hx⟩ := h.form
  obtain ⟨B, cap', rfl, hcap', hx'⟩ := h'.form
  have HX := Kp.mk hx
  have HX' := Kp.mk hx'
  clear hx h hx' h'
  go_enter Try.func13, Try.ntmps13
  go_wp2_with fail
  go_loopw [5] (fun i wr => ∃ k : Nat, k ≤ l.length ∧ i = .int .i64 k ∧ Kp (Below w.heap.size w wr))
    (fun i _ => l.length - (intOf i).toNat)
  case atStart => exact ⟨0, Nat.zero_le _, rfl, ⟨Below.refl _ _⟩⟩
  case round =>
    obtain ⟨k, hk, rfl, HB⟩ := hrel
    by_cases hlt : k < l.length
    · obtain ⟨b, o, rfl, hb, hc⟩ := HX.out (by omega)
      obtain ⟨b', o', rfl, hb', hc'⟩ := HX'.out (by omega)
      have hc0 : wr.cell? ⟨b, o + k * 2, none⟩ = some (.int .i64 (l.getD k (0, 0)).1) := (HB.out.cell (by exact hb)).trans (hc k hlt).1
      have hc1 : wr.cell? ⟨b, o + k * 2 + 1, none⟩ = some (.int .i64 (l.getD k (0, 0)).2) := (HB.out.cell (by exact hb)).trans (hc k hlt).2
      have hd0 : wr.cell? ⟨b', o' + k * 2, none⟩ = some (.int .i64 (l.getD k (0, 0)).1) := (HB.out.cell (by exact hb')).trans (hc' k hlt).1
      have hd1 : wr.cell? ⟨b', o' + k * 2 + 1, none⟩ = some (.int .i64 (l.getD k (0, 0)).2) := (HB.out.cell (by exact hb')).trans (hc' k hlt).2
      clear hc hc'
      generalize l.getD k (0, 0) = x at *
      obtain ⟨p, q⟩ := x
      dsimp only at hc0 hc1 hd0 hd1
      go_wp2_with fail
      go_quiet (fail)
      go_wp2_with fail
      exact ⟨⟨k + 1, by omega, by go_num, ⟨below_drewN HB.out _⟩⟩, by simp [intOf]; omega⟩
    · go_wp2
      go_ret
      exact ⟨rfl, HB.out⟩
end Go.Proofs.Ytdjnadnmlcpaaaa
