/- Contracts of package runs, of the reference's runs, of the law's helpers on runs. -/
import Derived.Test.YtdjnadnmlcpaaaaProg
import Derived.Test.YtdjnadnmlcpaaaaBase
namespace Go.Proofs.Ytdjnadnmlcpaaaa
open Go.RowKit

theorem infoR : (Try.prog.info? 52).map (fun i => (i.zero, i.size, i.bytes)) = some (some (.agg #[.int .i64 0, .int .i64 0]), 2, 16) := by kernel_rfl
theorem infoR6 : (Try.prog.info? 80).map (fun i => (i.zero, i.size, i.bytes)) = some (some (.agg #[.int .i64 0, .int .i64 0]), 2, 16) := by kernel_rfl

theorem prs_one (x : Int × Int) : prs [x] = [.int .i64 x.1, .int .i64 x.2] := rfl
theorem prs_one' (x : Int × Int) : ∀ u ∈ prs [x], u.oneCell' = true := by
  intro u hu
  simp only [prs_one, List.mem_cons, List.not_mem_nil, or_false] at hu
  rcases hu with rfl | rfl <;> rfl

/-- Does a run count? -/
def cnt (r : Int × Int) : Bool := decide (1 ≤ r.2) && decide (r.2 ≤ 1073741824) && decide (0 ≤ r.1) && decide (r.1 ≤ 1073741824)
def counts (l : List (Int × Int)) : List (Int × Int) := l.filter cnt
theorem take_snoc {α : Type} (l : List α) (d : α) (k : Nat) (h : k < l.length) : l.take (k + 1) = l.take k ++ [l.getD k d] := by
  rw [List.take_succ_eq_append_getElem h, List.getD_eq_getElem?_getD, List.getElem?_eq_getElem h]; rfl
theorem counts_snoc (l : List (Int × Int)) (k : Nat) (h : k < l.length) : counts (l.take (k + 1)) = counts (l.take k) ++ if cnt (l.getD k (0, 0)) then [l.getD k (0, 0)] else [] := by
  rw [take_snoc l (0, 0) k h, counts, List.filter_append]
  congr 1
  simp only [List.filter_cons, List.filter_nil]
theorem counts_len (l : List (Int × Int)) : (counts l).length ≤ l.length := List.length_filter_le _ _

set_option maxHeartbeats 1000000 in
set_option maxRecDepth 100000 in
theorem counts_calls (v : Value) (l : List (Int × Int)) (w : World) (h : SlP w v l) (hl : l.length ≤ 1000000) :
    Calls Try.prog 44 #[v] w fun e w' => ∃ v', e = .returned v' ∧ w'.ownsRow w.heap.size 52 2 v' (counts l).length (prs (counts l)) ∧ Below w.heap.size w w' := by
  obtain ⟨A, cap, rfl, hcap, hx⟩ := h.form
  have HX := Kp.mk hx
  clear hx h
  go_enter Try.func44, Try.ntmps44
  go_wp2_with fail
  go_loopw [3, 8] (fun u i wr => ∃ k : Nat, k ≤ l.length ∧ i = .int .i64 k ∧ Kp (wr.ownsRow w.heap.size 52 2 u (counts (l.take k)).length (prs (counts (l.take k)))) ∧ Kp (Below w.heap.size w wr))
    (fun _ i _ => l.length - (intOf i).toNat)
  case atStart => exact ⟨0, Nat.zero_le _, rfl, ⟨World.ownsRow_nil _ _ _ _⟩, ⟨Below.refl _ _⟩⟩
  case round =>
    obtain ⟨k, hk, rfl, HO, HB⟩ := hrel
    rename_i u3 _ _
    by_cases hlt : k < l.length
    · obtain ⟨b, o, rfl, hb, hc⟩ := HX.out (by omega)
      have hsn := Kp.mk (counts_snoc l k hlt)
      have hc0 : wr.cell? ⟨b, o + k * 2, none⟩ = some (.int .i64 (l.getD k (0, 0)).1) := (HB.out.cell (by exact hb)).trans (hc k hlt).1
      have hc1 : wr.cell? ⟨b, o + k * 2 + 1, none⟩ = some (.int .i64 (l.getD k (0, 0)).2) := (HB.out.cell (by exact hb)).trans (hc k hlt).2
      clear hc
      generalize l.getD k (0, 0) = x at *
      obtain ⟨p, q⟩ := x
      dsimp only at hc0 hc1
      have hbs := HB.out.size
      have hll : (counts (l.take k)).length ≤ 1000000 := by
        have h1 := counts_len (l.take k)
        have h2 : (l.take k).length ≤ l.length := by rw [List.length_take]; omega
        omega
      cases hcn : cnt (p, q) with
      | true =>
        have hh : ((1 ≤ q ∧ q ≤ 1073741824) ∧ 0 ≤ p) ∧ p ≤ 1073741824 := by simpa [cnt] using hcn
        obtain ⟨⟨⟨h1, h2⟩, h3⟩, h4⟩ := hh
        have HCN := Kp.mk hcn
        clear hcn
        go_wp2_with (at_builtin; go_loud (refine app1 (w0 := w) w.heap.size rfl _ _ 38 52 _ 2 16 rfl Try.underlying38 infoR rfl (by decide) _ _ _ [.int .i64 p, .int .i64 q] rfl _ rfl ?c0 rfl (prs_one' (p, q)) (HO.out.alloc _) (HB.out.alloc hbs _) ?c1 ?c2 ?c3 ?_))
        case c0 => simp
        case c1 => simp; omega
        case c2 => omega
        case c3 => omega
        rintro v1 w1 HO1 HB1 HG1
        clear HG1
        go_wp2
        exact ⟨⟨k + 1, by omega, by go_num, ⟨by rw [hsn.out, HCN.out, if_pos rfl, prs_append, List.length_append]; exact HO1.out⟩, HB1⟩, by simp [intOf]; omega⟩
      | false =>
        have HCN := Kp.mk hcn
        have hh : ¬ (((1 ≤ q ∧ q ≤ 1073741824) ∧ 0 ≤ p) ∧ p ≤ 1073741824) := by
          intro h
          have : cnt (p, q) = true := by simpa [cnt] using h
          rw [hcn] at this
          cases this
        clear hcn
        have HN : Kp (counts (l.take (k + 1)) = counts (l.take k)) := ⟨by rw [hsn.out, HCN.out]; simp⟩
        have fin : ∀ (w' : World), Below w.heap.size w w' → wr.grownBy w' none → Kp (w'.ownsRow w.heap.size 52 2 u3 (counts (l.take (k + 1))).length (prs (counts (l.take (k + 1))))) := fun w' _ hg => ⟨by rw [HN.out]; exact HO.out.kept hg (by cases u3.ownBlock <;> simp)⟩
        have FIN := Kp.mk fin
        clear fin
        by_cases h1 : 1 ≤ q
        · by_cases h2 : q ≤ 1073741824
          · by_cases h3 : 0 ≤ p
            · have h4 : ¬ p ≤ 1073741824 := fun h4 => hh ⟨⟨⟨h1, h2⟩, h3⟩, h4⟩
              clear hh
              go_wp2
              exact ⟨⟨k + 1, by omega, by go_num, FIN.out _ (HB.out.alloc hbs _) (World.grownBy_alloc _ _ _), ⟨HB.out.alloc hbs _⟩⟩, by simp [intOf]; omega⟩
            · clear hh
              go_wp2
              exact ⟨⟨k + 1, by omega, by go_num, FIN.out _ (HB.out.alloc hbs _) (World.grownBy_alloc _ _ _), ⟨HB.out.alloc hbs _⟩⟩, by simp [intOf]; omega⟩
          · clear hh
            go_wp2
            exact ⟨⟨k + 1, by omega, by go_num, FIN.out _ (HB.out.alloc hbs _) (World.grownBy_alloc _ _ _), ⟨HB.out.alloc hbs _⟩⟩, by simp [intOf]; omega⟩
        · clear hh
          go_wp2
          exact ⟨⟨k + 1, by omega, by go_num, FIN.out _ (HB.out.alloc hbs _) (World.grownBy_alloc _ _ _), ⟨HB.out.alloc hbs _⟩⟩, by simp [intOf]; omega⟩
    · have hke : l.take k = l := List.take_of_length_le (by omega)
      rw [hke] at HO
      clear hke
      go_wp2
      go_ret
      exact ⟨_, rfl, HO.out, HB.out⟩

/-! ### sums -/
def sumL (l : List (Int × Int)) : Int := (l.map (·.2)).sum
theorem sumL_snoc (l : List (Int × Int)) (k : Nat) (h : k < l.length) : sumL (l.take (k + 1)) = sumL (l.take k) + (l.getD k (0, 0)).2 := by
  rw [take_snoc l (0, 0) k h]; simp [sumL]
theorem counts_bd (l : List (Int × Int)) : ∀ x ∈ counts l, 1 ≤ x.2 ∧ x.2 ≤ 1073741824 ∧ 0 ≤ x.1 ∧ x.1 ≤ 1073741824 := by
  intro x hx
  have := (List.mem_filter.1 hx).2
  simp [cnt] at this
  omega
theorem sumL_bd (l : List (Int × Int)) (h : ∀ x ∈ l, 1 ≤ x.2 ∧ x.2 ≤ 1073741824) : 0 ≤ sumL l ∧ sumL l ≤ l.length * 1073741824 := by
  induction l with
  | nil => simp [sumL]
  | cons x l ih =>
    have h1 := h x (by simp)
    have h2 := ih (fun y hy => h y (by simp [hy]))
    simp only [sumL, List.map_cons, List.sum_cons, List.length_cons] at h2 ⊢
    omega
theorem sumL_take_bd (l : List (Int × Int)) (k : Nat) (hk : k ≤ l.length) (h : ∀ x ∈ l, 1 ≤ x.2 ∧ x.2 ≤ 1073741824) : 0 ≤ sumL (l.take k) ∧ sumL (l.take k) ≤ k * 1073741824 := by
  have := sumL_bd (l.take k) (fun x hx => h x (List.mem_of_mem_take hx))
  rw [List.length_take, Nat.min_eq_left hk] at this
  exact this

set_option maxHeartbeats 1000000 in
set_option maxRecDepth 100000 in
theorem total_calls (v : Value) (l : List (Int × Int)) (w : World) (h : SlP w v l) (hl : l.length ≤ 1000000) :
    Calls Try.prog 33 #[v] w fun e w' => e = .returned (.int .i64 (sumL (counts l))) ∧ Below w.heap.size w w' := by
  have H := Kp.mk h
  clear h
  have hcl := counts_len l
  have hbd := Kp.mk (counts_bd l)
  have hcc := counts_calls v l
  obtain ⟨c, hce⟩ : ∃ c, counts l = c := ⟨_, rfl⟩
  rw [hce] at hcl hbd hcc ⊢
  have HCC := Kp.mk hcc
  clear hce hcc
  go_enter Try.func33, Try.ntmps33
  go_wp2_with fail
  refine (HCC.out _ H.out hl).mono ?_
  rintro e w1 ⟨v', rfl, hown, hb1⟩
  have hsl : SlP w1 v' c := Sl.of_own hown (by omega)
  obtain ⟨A, cap, rfl, hcap, hx⟩ := hsl.form
  have HX := Kp.mk hx
  have HB1 := Kp.mk hb1
  clear hx hsl hown hb1
  go_wp2_with fail
  go_loopw [3, 9] (fun u i wr => ∃ k : Nat, k ≤ c.length ∧ i = .int .i64 k ∧ u = .int .i64 (sumL (c.take k)) ∧ Kp (Below w1.heap.size w1 wr))
    (fun _ i _ => c.length - (intOf i).toNat)
  case atStart => exact ⟨0, Nat.zero_le _, rfl, by simp [sumL], ⟨Below.refl _ _⟩⟩
  case round =>
    obtain ⟨k, hk, rfl, rfl, HB⟩ := hrel
    have hs := sumL_take_bd c k hk (fun x hx => ⟨(hbd.out x hx).1, (hbd.out x hx).2.1⟩)
    by_cases hlt : k < c.length
    · obtain ⟨b, o, rfl, hb, hc⟩ := HX.out (by omega)
      have hsn := Kp.mk (sumL_snoc c k hlt)
      have hmem : c.getD k (0, 0) ∈ c := by rw [List.getD_eq_getElem?_getD, List.getElem?_eq_getElem hlt]; exact List.getElem_mem hlt
      obtain ⟨hq1, hq2, _, _⟩ := hbd.out _ hmem
      have hc0 : wr.cell? ⟨b, o + k * 2, none⟩ = some (.int .i64 (c.getD k (0, 0)).1) := (HB.out.cell (by exact hb)).trans (hc k hlt).1
      have hc1 : wr.cell? ⟨b, o + k * 2 + 1, none⟩ = some (.int .i64 (c.getD k (0, 0)).2) := (HB.out.cell (by exact hb)).trans (hc k hlt).2
      clear hc hmem
      generalize c.getD k (0, 0) = x at *
      obtain ⟨p, q⟩ := x
      dsimp only at hc0 hc1 hq1 hq2
      have hbs := HB.out.size
      obtain ⟨s0, s1⟩ := hs
      generalize sumL (c.take k) = s at *
      go_wp2
      exact ⟨⟨k + 1, by omega, by go_num, by rw [hsn.out], ⟨HB.out.alloc hbs _⟩⟩, by simp [intOf]; omega⟩
    · have hke : c.take k = c := List.take_of_length_le (by omega)
      have HKE := Kp.mk hke
      clear hke hs
      go_wp2
      go_ret
      exact ⟨by simp [HKE.out], below_then HB1.out HB.out⟩
end Go.Proofs.Ytdjnadnmlcpaaaa
