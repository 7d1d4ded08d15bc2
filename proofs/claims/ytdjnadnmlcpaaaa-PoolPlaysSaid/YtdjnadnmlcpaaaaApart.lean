import Derived.Test.YtdjnadnmlcpaaaaLaySort
import Derived.Test.YtdjnadnmlcpaaaaSortKit
import Derived.Test.YtdjnadnmlcpaaaaRunsM
/-! runs.Apart. -/
namespace Go.Proofs.Ytdjnadnmlcpaaaa
open Go.Shelf Go.RowKit Go.Lib Go.Sort

/-- Two runs that do not meet. -/
def Off (x y : Int × Int) : Prop := x.1 + x.2 ≤ y.1 ∨ y.1 + y.2 ≤ x.1
instance : DecidableRel Off := fun x y => by unfold Off; exact inferInstance
theorem Off.symm {x y : Int × Int} (h : Off x y) : Off y x := Or.symm h
def apartB (l : List (Int × Int)) : Bool := decide (l.Pairwise Off)

/-- A run whose start is in bounds. -/
abbrev RunN := { x : Int × Int // 0 ≤ x.1 ∧ x.1 ≤ 1073741824 }
instance : Inhabited RunN := ⟨⟨(0, 0), by decide⟩⟩
def encN (x : RunN) : List Value := [.int .i64 x.1.1, .int .i64 x.1.2]
theorem encN_len (x : RunN) : (encN x).length = 2 := rfl
theorem encN_one (x : RunN) : ∀ v ∈ encN x, v.oneCell' = true := by
  intro v hv
  simp [encN] at hv
  rcases hv with rfl | rfl <;> rfl

def byFrom (x y : RunN) : Int := x.1.1 - y.1.1
theorem ltFrom (x y : RunN) : ltOf byFrom x y = decide (x.1.1 < y.1.1) := by
  unfold ltOf byFrom
  by_cases h : x.1.1 < y.1.1
  · rw [decide_eq_true h, decide_eq_true (by omega)]
  · rw [decide_eq_false h, decide_eq_false (by omega)]
theorem swoFrom : SWO (ltOf byFrom) where
  irrefl x := by rw [ltFrom]; simp
  trans x y z h1 h2 := by rw [ltFrom] at *; simp at *; omega
  ntrans x y z h1 h2 := by rw [ltFrom] at *; simp at *; omega

set_option maxHeartbeats 1000000 in
theorem from_calls (x y : RunN) (W : World) : Calls Try.prog 46 #[.agg #[.int .i64 x.1.1, .int .i64 x.1.2], .agg #[.int .i64 y.1.1, .int .i64 y.1.2]] W fun e w' => e = .returned (.int .i64 (byFrom x y)) ∧ ∃ q os', w' = grow (W.drewN q) os' := by
  obtain ⟨⟨a, la⟩, ha⟩ := x
  obtain ⟨⟨b, lb⟩, hb⟩ := y
  have hr : byFrom ⟨(a, la), ha⟩ ⟨(b, lb), hb⟩ = a - b := rfl
  rw [hr]
  simp only at ha hb ⊢
  go_enter Try.func46, Try.ntmps46
  go_wp2_with fail
  go_ret
  exact ⟨rfl, 0, _, by rw [alloc_eq_grow, alloc_eq_grow, grow_grow]; rfl⟩

theorem apart_pure (d : List (Int × Int)) (hs : ∀ i j, i < j → j < d.length → (d.getD i (0, 0)).1 ≤ (d.getD j (0, 0)).1) (hp : ∀ x ∈ d, 1 ≤ x.2) :
    d.Pairwise Off ↔ ∀ i, i + 1 < d.length → (d.getD i (0, 0)).1 + (d.getD i (0, 0)).2 ≤ (d.getD (i + 1) (0, 0)).1 := by
  have hg : ∀ i (h : i < d.length), d.getD i (0, 0) = d[i] := fun i h => by rw [List.getD_eq_getElem?_getD, List.getElem?_eq_getElem h, Option.getD_some]
  rw [List.pairwise_iff_getElem]
  constructor
  · intro h i hi
    have := h i (i + 1) (by omega) hi (by omega)
    rw [← hg, ← hg] at this
    rcases this with h1 | h1
    · exact h1
    · have h2 := hs i (i + 1) (by omega) hi
      have h3 := hp (d.getD (i + 1) (0, 0)) (by rw [hg _ hi]; exact List.getElem_mem _)
      omega
  · intro h i j hi hj hij
    refine Or.inl ?_
    rw [← hg, ← hg]
    have h1 := h i (by omega)
    rcases Nat.lt_or_ge (i + 1) j with h2 | h2
    · have := hs (i + 1) j h2 hj; omega
    · have : j = i + 1 := by omega
      subst this; exact h1

theorem apart_perm {l d : List (Int × Int)} (h : d.Perm l) : apartB l = apartB d := by
  unfold apartB
  have := List.Perm.pairwise_iff (R := Off) (fun h => h.symm) h
  exact decide_eq_decide.2 this.symm

theorem prs_encN (l : List RunN) : encL encN l = prs (l.map (·.1)) := by
  induction l with
  | nil => rfl
  | cons x l ih => show encN x ++ encL encN l = _; rw [ih]; rfl

set_option maxHeartbeats 1000000 in
set_option maxRecDepth 100000 in
theorem apart_calls (v : Value) (l : List (Int × Int)) (w : World) (h : SlP w v l) (hl : l.length ≤ 1000000) (hne : counts l ≠ []) :
    Calls Try.prog 39 #[v] w fun e w' => e = .returned (.bool (apartB (counts l))) ∧ Below w.heap.size w w' := by
  have hC : Kp _ := ⟨counts_calls v l w h hl⟩
  have hcl := counts_len l
  have hbd : Kp _ := ⟨counts_bd l⟩
  obtain ⟨c, hc⟩ : ∃ c, c = counts l := ⟨_, rfl⟩
  rw [← hc] at hcl hbd hne
  have HC : Kp _ := ⟨hc⟩
  clear h hc
  go_enter Try.func39, Try.ntmps39
  go_wp2_with fail
  refine hC.out.mono ?_
  rintro e w1 ⟨v1, rfl, hown, hb1⟩
  rw [← HC.out] at hown
  -- as the sort wants it
  obtain ⟨cn, hcn⟩ : ∃ cn : List RunN, c = cn.map (·.1) := ⟨c.attach.map fun x => ⟨x.1, (hbd.out x.1 x.2).2.2⟩, by rw [List.map_map]; exact (List.attach_map_subtype_val c).symm⟩
  have hlen : c.length = cn.length := by rw [hcn, List.length_map]
  have hpos : 0 < cn.length := by rw [← hlen]; exact List.length_pos_iff.2 hne
  rw [hcn, ← prs_encN, List.length_map] at hown
  obtain ⟨g, cap, rfl, hcap, hgb, hgl, hH⟩ := own_sort encN_len hown hpos
  have hsrt := AnyQ.slices_SortFunc Try.sortR 2 Try.isAgg52 Try.sizeOf52 encN encN_len encN_one byFrom swoFrom 46 #[] g 0 cap cn.toArray w1 (enters_of Try.func46 (by kernel_rfl) rfl) (fun _ _ _ _ x y => from_calls x y _) hH hgl (by simp; omega)
  have KS : Kp _ := ⟨hsrt⟩
  have KB : Kp _ := ⟨hb1⟩
  have KH : Kp _ := ⟨hH⟩
  clear hsrt hb1 hown hC hH
  go_wp2_with fail
  refine KS.out.mono ?_
  rintro e w2 ⟨rfl, d', n, os, hp, hs, rfl⟩
  have hds : d'.size = cn.toArray.size := hp.1
  obtain ⟨hS2, hB2, hz⟩ := sort_back (n := n) (os := os) (cap := cap) encN_len KH.out hgl hds hgb (by rw [hds]; simpa using hcap) (by omega) (Nat.le_of_lt (Nat.lt_of_le_of_lt hgb hgl))
  rw [prs_encN] at hS2
  have hperm : d'.toList.Perm cn := by
    have := hp.2.2
    rw [show (cn.toArray.extract 0 cn.toArray.size) = cn.toArray by simp, show d'.extract 0 cn.toArray.size = d' by rw [← hds]; simp] at this
    simpa using this
  obtain ⟨D, hD⟩ : ∃ D, D = d'.toList.map (·.1) := ⟨_, rfl⟩
  have hDp : D.Perm c := by rw [hD, hcn]; exact hperm.map _
  have hDl : D.length = c.length := hDp.length_eq
  have hDs : ∀ i j, i < j → j < D.length → (D.getD i (0, 0)).1 ≤ (D.getD j (0, 0)).1 := by
    intro i j hij hj
    have hj' : j < d'.size := by rw [hD, List.length_map] at hj; simpa using hj
    have := hs i j (Nat.zero_le _) hij (by rw [← hds]; exact hj')
    rw [ltFrom, getElem!_pos d' i (by omega), getElem!_pos d' j hj'] at this
    have h1 : D.getD i (0, 0) = d'[i].1 := by rw [List.getD_eq_getElem?_getD, hD, List.getElem?_map, List.getElem?_eq_getElem (by simp; omega)]; simp
    have h2 : D.getD j (0, 0) = d'[j].1 := by rw [List.getD_eq_getElem?_getD, hD, List.getElem?_map, List.getElem?_eq_getElem (by simp; omega)]; simp
    rw [h1, h2]
    simpa using this
  have hDb : ∀ x ∈ D, 1 ≤ x.2 ∧ x.2 ≤ 1073741824 ∧ 0 ≤ x.1 ∧ x.1 ≤ 1073741824 := fun x hx => hbd.out x (hDp.mem_iff.1 hx)
  have hRes : Kp (apartB c = true ↔ ∀ i, i + 1 < D.length → (D.getD i (0, 0)).1 + (D.getD i (0, 0)).2 ≤ (D.getD (i + 1) (0, 0)).1) := ⟨by
    rw [apart_perm hDp]; unfold apartB; rw [decide_eq_true_iff]; exact apart_pure D hDs fun x hx => (hDb x hx).1⟩
  have hSD : SlP (sortWorldK encN 2 w1 g 0 n d' os) (.slice (some ⟨g, 0, none⟩) cn.length cap) D := by
    have : D.length = d'.toList.length := by rw [hD, List.length_map]
    unfold SlP
    rw [this, hD]
    exact hS2
  have HDB : Kp _ := ⟨hDb⟩
  have HB : Kp (Below w.heap.size w (sortWorldK encN 2 w1 g 0 n d' os)) := ⟨KB.out.trans hB2⟩
  have hzz : w.heap.size ≤ (sortWorldK encN 2 w1 g 0 n d' os).heap.size := HB.out.size
  generalize sortWorldK encN 2 w1 g 0 n d' os = W at hSD HB hzz ⊢
  rw [show cn.length = D.length by omega] at hSD ⊢
  obtain ⟨A, cap', hv', hcap', hx⟩ := hSD.form
  rw [HC.out] at hRes
  have hDl2 : 0 < D.length ∧ D.length ≤ 1000000 := by omega
  obtain ⟨bb, o, hA, hbb, hx2⟩ := hx hDl2.1
  rw [hA] at hv'
  obtain ⟨⟩ := hv'
  have HX : Kp _ := ⟨hx2⟩
  clear hx hx2 hA hSD hDp hDs hDb hD hperm hS2 hB2 hz hds hp hs KS KB KH HC hne hcn hbd hpos hlen hcl hgl hgb hcap hDl hcap'
  go_wp2_with fail
  go_loopw [4] (fun x wr => ∃ k : Nat, k + 1 ≤ D.length ∧ x = .int .i64 ((k : Int) + 1) ∧ Kp (∀ i, i < k → (D.getD i (0, 0)).1 + (D.getD i (0, 0)).2 ≤ (D.getD (i + 1) (0, 0)).1) ∧ Kp (Below W.heap.size W wr))
    (fun x _ => D.length - (intOf x).toNat)
  case atStart => exact ⟨0, by omega, rfl, ⟨fun i h => by omega⟩, ⟨Below.refl _ _⟩⟩
  case round =>
    obtain ⟨k, hk, rfl, HK, HB2⟩ := hrel
    by_cases hlt : k + 1 < D.length
    · have hltz : (k : Int) + 1 < (D.length : Int) := by omega
      have hc0 : wr.cell? ⟨g, 0 + k * 2, none⟩ = some (.int .i64 (D.getD k (0, 0)).1) := (HB2.out.cell (by exact hbb)).trans (HX.out k (by omega)).1
      have hc1 : wr.cell? ⟨g, 0 + k * 2 + 1, none⟩ = some (.int .i64 (D.getD k (0, 0)).2) := (HB2.out.cell (by exact hbb)).trans (HX.out k (by omega)).2
      have hd0 : wr.cell? ⟨g, 0 + (k + 1) * 2, none⟩ = some (.int .i64 (D.getD (k + 1) (0, 0)).1) := (HB2.out.cell (by exact hbb)).trans (HX.out (k + 1) (by omega)).1
      obtain ⟨a1, a2, a3, a4⟩ := HDB.out _ (getD_mem D (0, 0) k (by omega))
      obtain ⟨e1, e2, e3, e4⟩ := HDB.out _ (getD_mem D (0, 0) (k + 1) hlt)
      have HK2 : Kp ((D.getD k (0, 0)).1 + (D.getD k (0, 0)).2 ≤ (D.getD (k + 1) (0, 0)).1 → ∀ i, i < k + 1 → (D.getD i (0, 0)).1 + (D.getD i (0, 0)).2 ≤ (D.getD (i + 1) (0, 0)).1) := ⟨fun h i hi => by
        rcases Nat.lt_or_ge i k with h1 | h1
        · exact HK.out i h1
        · have : i = k := by omega
          subst this; exact h⟩
      have HN : Kp ((D.getD (k + 1) (0, 0)).1 < (D.getD k (0, 0)).1 + (D.getD k (0, 0)).2 → apartB (counts l) = false) := ⟨fun h => by
        rw [Bool.eq_false_iff]; intro h3; have := hRes.out.1 h3 k hlt; omega⟩
      generalize D.getD k (0, 0) = x at *
      generalize D.getD (k + 1) (0, 0) = y at *
      obtain ⟨p, q⟩ := x
      obtain ⟨p', q'⟩ := y
      dsimp only at *
      simp only [Nat.zero_add] at hc0 hc1 hd0
      have q1 : IntKind.i64.wrap ((k : Int) + 1 - 1) = (k : Int) := by rw [IntKind.wrap_i64] <;> omega
      have q2 : (k : Int) < (D.length : Int) := by omega
      have q3 : ((k : Int) + 1).toNat = k + 1 := by omega
      by_cases ht : p' < p + q
      · have hb1 : decide (p' < p + q) = true := by simpa using ht
        have hres : Kp _ := ⟨HN.out ht⟩
        clear HN HK2 HK
        go_wp2_with fail
        go_quiet (fail)
        go_wp2_with fail
        go_ret
        rw [hres.out]
        exact ⟨rfl, HB.out.trans ((below_drewN HB2.out _).mono hzz)⟩
      · have hb1 : decide (p' < p + q) = false := by simpa using ht
        have HK3 := HK2.out (by omega)
        have HK4 : Kp _ := ⟨HK3⟩
        clear HK2 HK3 HN HK
        go_wp2_with fail
        go_quiet (fail)
        go_wp2_with fail
        exact ⟨⟨k + 1, by omega, by go_num, HK4, ⟨below_drewN HB2.out _⟩⟩, by simp [intOf]; omega⟩
    · have hltz : ¬ (k : Int) + 1 < (D.length : Int) := by omega
      have hres : Kp (apartB (counts l) = true) := ⟨hRes.out.2 fun i hi => HK.out i (by omega)⟩
      clear HK
      go_wp2_with fail
      go_ret
      rw [hres.out]
      exact ⟨rfl, HB.out.trans (HB2.out.mono hzz)⟩
end Go.Proofs.Ytdjnadnmlcpaaaa
