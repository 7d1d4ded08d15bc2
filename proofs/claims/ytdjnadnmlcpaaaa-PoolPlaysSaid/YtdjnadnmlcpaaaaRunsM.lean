/- Contracts: the reference's Merge of what is merged already, its Apart of what is apart. -/
import Derived.Test.YtdjnadnmlcpaaaaRunsR
namespace Go.Proofs.Ytdjnadnmlcpaaaa
open Go.RowKit

/-- All count; no run begins where the one ahead ends. -/
def Merged (l : List (Int × Int)) : Prop := (∀ x ∈ l, cnt x = true) ∧ ∀ k, k + 1 < l.length → (l.getD k (0, 0)).1 + (l.getD k (0, 0)).2 ≠ (l.getD (k + 1) (0, 0)).1

theorem counts_self (l : List (Int × Int)) (h : ∀ x ∈ l, cnt x = true) : counts l = l := List.filter_eq_self.2 h
theorem cnt_bd {x : Int × Int} (h : cnt x = true) : 1 ≤ x.2 ∧ x.2 ≤ 1073741824 ∧ 0 ≤ x.1 ∧ x.1 ≤ 1073741824 := by
  simp [cnt] at h; omega
theorem getD_mem {α : Type} (l : List α) (d : α) (k : Nat) (h : k < l.length) : l.getD k d ∈ l := by
  rw [List.getD_eq_getElem?_getD, List.getElem?_eq_getElem h]; exact List.getElem_mem h

set_option maxHeartbeats 2000000 in
set_option maxRecDepth 100000 in
theorem merge6_calls (v : Value) (l : List (Int × Int)) (w : World) (h : SlP w v l) (hl : l.length ≤ 1000000) (hm : Merged l) :
    Calls Try.prog 14 #[v] w fun e w' => ∃ v', e = .returned v' ∧ w'.ownsRow w.heap.size 80 2 v' l.length (prs l) ∧ Below w.heap.size w w' := by
  have H := Kp.mk h
  have HM := Kp.mk hm
  clear h hm
  go_enter Try.func14, Try.ntmps14
  go_wp2_with fail
  refine (counts6_calls v l _ H.out hl).mono ?_
  rintro e w1 ⟨v', rfl, hown, hb1⟩
  rw [counts_self l HM.out.1] at hown
  have hsl : SlP w1 v' l := Sl.of_own hown (by omega)
  obtain ⟨A, cap, rfl, hcap, hx⟩ := hsl.form
  have HX := Kp.mk hx
  have HB1 := Kp.mk hb1
  clear hx hsl hown hb1
  go_wp2_with fail
  go_loopw [3, 4] (fun u i wr => ∃ k : Nat, k ≤ l.length ∧ i = .int .i64 k ∧ Kp (wr.ownsRow w1.heap.size 80 2 u k (prs (l.take k))) ∧ Kp (Below w1.heap.size w1 wr))
    (fun _ i _ => l.length - (intOf i).toNat)
  case atStart => exact ⟨0, Nat.zero_le _, rfl, ⟨World.ownsRow_nil _ _ _ _⟩, ⟨Below.refl _ _⟩⟩
  case round =>
    obtain ⟨k, hk, rfl, HO, HB⟩ := hrel
    by_cases hlt : k < l.length
    · obtain ⟨b, o, rfl, hb, hc⟩ := HX.out (by omega)
      have hsn := Kp.mk (take_snoc l (0, 0) k hlt)
      have hc0 : wr.cell? ⟨b, o + k * 2, none⟩ = some (.int .i64 (l.getD k (0, 0)).1) := (HB.out.cell (by exact hb)).trans (hc k hlt).1
      have hc1 : wr.cell? ⟨b, o + k * 2 + 1, none⟩ = some (.int .i64 (l.getD k (0, 0)).2) := (HB.out.cell (by exact hb)).trans (hc k hlt).2
      clear hc
      have hbs := HB.out.size
      by_cases hk0 : k = 0
      · subst hk0
        generalize l.getD 0 (0, 0) = x at *
        obtain ⟨p, q⟩ := x
        dsimp only at hc0 hc1
        simp only [Nat.zero_mul, Nat.add_zero] at hc0 hc1
        have hv := HO.out.2
        rcases hv with ⟨rfl, _⟩ | ⟨g, cap0, cur, rfl, hg, _⟩
        all_goals
          have hd : decide ((0 : Int) < 0) = false := by decide
          go_wp2_with fail
          go_quiet (fail)
          go_wp2_with (at_builtin; refine app1 (w0 := w1) w1.heap.size rfl (.tmp 56) (.tmp 61) 46 80 _ 2 16 rfl Try.underlying46 infoR6 rfl (by decide) _ 0 (prs (l.take 0)) [.int .i64 p, .int .i64 q] rfl _ rfl ?c0 rfl (prs_one' (p, q)) ?cO ?cB ?c1 ?c2 ?c3 ?_)
          case c0 => rfl
          case cO => exact HO.out
          case cB => exact below_drewN HB.out _
          case c1 => exact hbs
          case c2 => omega
          case c3 => omega
          rintro v1 w2 HO1 HB2 HG2
          clear HG2
          go_wp2_with fail
          exact ⟨⟨1, by omega, by go_num, ⟨by rw [hsn.out, prs_append]; exact HO1.out⟩, HB2⟩, by simp [intOf]; omega⟩
      · obtain ⟨j, rfl⟩ : ∃ j, k = j + 1 := ⟨k - 1, by omega⟩
        have hnm := HM.out.2 j hlt
        obtain ⟨hb1, hb2, hb3, hb4⟩ := cnt_bd (HM.out.1 _ (getD_mem l (0, 0) j (by omega)))
        obtain ⟨g, cap0, rfl, hg1, hg2⟩ := HO.out.form (by omega)
        have hr0 : wr.cell? ⟨g, j * 2, none⟩ = some (.int .i64 (l.getD j (0, 0)).1) := by
          rw [HO.out.cellAt _ (by omega), prs_get0 _ _ (by rw [List.length_take]; omega)]
          simp [List.getD_eq_getElem?_getD, List.getElem?_take]
        have hr1 : wr.cell? ⟨g, j * 2 + 1, none⟩ = some (.int .i64 (l.getD j (0, 0)).2) := by
          rw [HO.out.cellAt _ (by omega), prs_get1 _ _ (by rw [List.length_take]; omega)]
          simp [List.getD_eq_getElem?_getD, List.getElem?_take]
        generalize l.getD (j + 1) (0, 0) = x at *
        generalize l.getD j (0, 0) = y at *
        obtain ⟨p, q⟩ := x
        obtain ⟨p', q'⟩ := y
        dsimp only at *
        have hne : (p' + q' == p) = false := by simpa using hnm
        have HNE := Kp.mk hnm
        clear hnm
        go_wp2_with fail
        go_quiet (fail)
        go_wp2_with (at_builtin; refine app1 (w0 := w1) w1.heap.size rfl (.tmp 56) (.tmp 61) 46 80 _ 2 16 rfl Try.underlying46 infoR6 rfl (by decide) _ (j + 1) (prs (l.take (j + 1))) [.int .i64 p, .int .i64 q] rfl _ rfl ?c0 rfl (prs_one' (p, q)) ?cO ?cB ?c1 ?c2 ?c3 ?_)
        case c0 => rfl
        case cO => exact HO.out
        case cB => exact below_drewN HB.out _
        case c1 => exact hbs
        case c2 => omega
        case c3 => omega
        rintro v1 w2 HO1 HB2 HG2
        clear HG2
        go_wp2_with fail
        exact ⟨⟨j + 2, by omega, by go_num, ⟨by rw [hsn.out, prs_append]; exact HO1.out⟩, HB2⟩, by simp [intOf]; omega⟩
    · have hke : l.take k = l := List.take_of_length_le (by omega)
      obtain rfl : k = l.length := by omega
      rw [hke] at HO
      clear hke
      go_wp2_with fail
      go_ret
      exact ⟨_, rfl, own_weak HO.out HB1.out.size, below_then HB1.out HB.out⟩

/-- No two have a block in common. -/
def ApartL (l : List (Int × Int)) : Prop := ∀ i k, k < i → i < l.length → ¬ ((l.getD i (0, 0)).1 < (l.getD k (0, 0)).1 + (l.getD k (0, 0)).2 ∧ (l.getD k (0, 0)).1 < (l.getD i (0, 0)).1 + (l.getD i (0, 0)).2)

set_option maxHeartbeats 2000000 in
set_option maxRecDepth 100000 in
theorem apart6_calls (v : Value) (l : List (Int × Int)) (w : World) (h : SlP w v l) (hl : l.length ≤ 1000000) (hcn : ∀ x ∈ l, cnt x = true) (hap : ApartL l) :
    Calls Try.prog 15 #[v] w fun e w' => e = .returned (.bool true) ∧ Below w.heap.size w w' := by
  have HC := Kp.mk hcn
  have HA := Kp.mk hap
  obtain ⟨A, cap, rfl, hcap, hx⟩ := h.form
  have HX := Kp.mk hx
  clear hx h hcn hap
  go_enter Try.func15, Try.ntmps15
  go_wp2_with fail
  go_loopw [3] (fun i wr => ∃ k : Nat, k ≤ l.length ∧ i = .int .i64 k ∧ Kp (Below w.heap.size w wr))
    (fun i _ => l.length - (intOf i).toNat)
  case atStart => exact ⟨0, Nat.zero_le _, rfl, ⟨Below.refl _ _⟩⟩
  case round =>
    obtain ⟨i, hk, rfl, HB⟩ := hrel
    by_cases hlt : i < l.length
    · go_wp2_with fail
      obtain ⟨wo, hwo⟩ : ∃ wo, wo = wr := ⟨_, rfl⟩
      rw [← hwo]
      have HB0 : Kp (Below w.heap.size w wo) := by rw [hwo]; exact HB
      clear hwo HB
      go_loopw [4] (fun x wr => ∃ k : Nat, k ≤ i ∧ x = .int .i64 k ∧ Kp (Below w.heap.size w wr))
        (fun x _ => i - (intOf x).toNat)
      case atStart => exact ⟨0, Nat.zero_le _, rfl, HB0⟩
      case round =>
        obtain ⟨k, hki, rfl, HB⟩ := hrel
        by_cases hlt2 : k < i
        · obtain ⟨b, o, rfl, hb, hc⟩ := HX.out (by omega)
          have hc0 : wr.cell? ⟨b, o + k * 2, none⟩ = some (.int .i64 (l.getD k (0, 0)).1) := (HB.out.cell (by exact hb)).trans (hc k (by omega)).1
          have hc1 : wr.cell? ⟨b, o + k * 2 + 1, none⟩ = some (.int .i64 (l.getD k (0, 0)).2) := (HB.out.cell (by exact hb)).trans (hc k (by omega)).2
          have hd0 : wr.cell? ⟨b, o + i * 2, none⟩ = some (.int .i64 (l.getD i (0, 0)).1) := (HB.out.cell (by exact hb)).trans (hc i hlt).1
          have hd1 : wr.cell? ⟨b, o + i * 2 + 1, none⟩ = some (.int .i64 (l.getD i (0, 0)).2) := (HB.out.cell (by exact hb)).trans (hc i hlt).2
          clear hc
          obtain ⟨a1, a2, a3, a4⟩ := cnt_bd (HC.out _ (getD_mem l (0, 0) k (by omega)))
          obtain ⟨e1, e2, e3, e4⟩ := cnt_bd (HC.out _ (getD_mem l (0, 0) i hlt))
          have hno := HA.out i k hlt2 hlt
          generalize l.getD k (0, 0) = x at *
          generalize l.getD i (0, 0) = y at *
          obtain ⟨p, q⟩ := x
          obtain ⟨p', q'⟩ := y
          dsimp only at *
          have HNO := Kp.mk hno
          clear hno
          by_cases ht : p' < p + q
          · have ht2 : ¬ p < p' + q' := fun h => HNO.out ⟨ht, h⟩
            have hb1 : decide (p' < p + q) = true := by simpa using ht
            have hb2 : decide (p < p' + q') = false := by simpa using ht2
            go_wp2_with fail
            go_quiet (fail)
            go_wp2_with fail
            exact ⟨⟨k + 1, by omega, by go_num, ⟨below_drewN HB.out _⟩⟩, by simp [intOf]; omega⟩
          · have hb1 : decide (p' < p + q) = false := by simpa using ht
            go_wp2_with fail
            go_quiet (fail)
            go_wp2_with fail
            exact ⟨⟨k + 1, by omega, by go_num, ⟨below_drewN HB.out _⟩⟩, by simp [intOf]; omega⟩
        · go_wp2_with fail
          exact ⟨⟨i + 1, by omega, by go_num, HB⟩, by simp [intOf]; omega⟩
    · go_wp2_with fail
      go_ret
      exact ⟨rfl, HB.out⟩

/-- The longest rows that have n blocks together, the last of them cut. -/
def enoughL : List (Int × Int) → Int → List (Int × Int)
  | [], _ => []
  | r :: l, n => if n = 0 then [] else (r.1, min r.2 n) :: enoughL l (n - min r.2 n)

set_option maxHeartbeats 2000000 in
set_option maxRecDepth 100000 in
theorem enough_calls (v : Value) (l : List (Int × Int)) (n : Int) (w : World) (h : SlP w v l) (hl : l.length ≤ 1000000) (hn : 0 ≤ n) (hn2 : n ≤ 9223372036854775807) (hq : ∀ x ∈ l, 0 ≤ x.2 ∧ x.2 ≤ 1073741824) :
    Calls Try.prog 32 #[v, .int .i64 n] w fun e w' => ∃ v', e = .returned v' ∧ w'.ownsRow w.heap.size 52 2 v' (enoughL l n).length (prs (enoughL l n)) ∧ Below w.heap.size w w' := by
  have HQ := Kp.mk hq
  obtain ⟨A, cap, rfl, hcap, hx⟩ := h.form
  have HX := Kp.mk hx
  clear hx h hq
  obtain ⟨R, hR⟩ : ∃ R, R = enoughL l n := ⟨_, rfl⟩
  rw [← hR]
  have HR := Kp.mk hR
  clear hR
  go_enter Try.func32, Try.ntmps32
  go_wp2_with fail
  go_loopw [1, 5, 10] (fun m u i wr => ∃ (k : Nat) (x : Int) (c : List (Int × Int)), k ≤ l.length ∧ i = .int .i64 k ∧ m = .int .i64 x ∧ 0 ≤ x ∧ x ≤ n ∧ c.length ≤ k ∧ Kp (R = c ++ enoughL (l.drop k) x) ∧ Kp (wr.ownsRow w.heap.size 52 2 u c.length (prs c)) ∧ Kp (Below w.heap.size w wr))
    (fun _ _ i _ => l.length - (intOf i).toNat)
  case atStart => exact ⟨0, n, [], Nat.zero_le _, rfl, rfl, hn, by omega, Nat.zero_le _, ⟨by simpa using HR.out⟩, ⟨World.ownsRow_nil _ _ _ _⟩, ⟨Below.refl _ _⟩⟩
  case round =>
    obtain ⟨k, x, c, hk, rfl, rfl, hx0, hxn, hck, HE, HO, HB⟩ := hrel
    have hbs := HB.out.size
    by_cases hlt : k < l.length
    · obtain ⟨b, o, rfl, hb, hc⟩ := HX.out (by omega)
      have hc0 : wr.cell? ⟨b, o + k * 2, none⟩ = some (.int .i64 (l.getD k (0, 0)).1) := (HB.out.cell (by exact hb)).trans (hc k hlt).1
      have hc1 : wr.cell? ⟨b, o + k * 2 + 1, none⟩ = some (.int .i64 (l.getD k (0, 0)).2) := (HB.out.cell (by exact hb)).trans (hc k hlt).2
      obtain ⟨q1, q2⟩ := HQ.out _ (getD_mem l (0, 0) k hlt)
      have hdr : l.drop k = l.getD k (0, 0) :: l.drop (k + 1) := by
        rw [List.getD_eq_getElem?_getD, List.getElem?_eq_getElem hlt]; exact List.drop_eq_getElem_cons hlt
      have HE' : Kp (R = c ++ (if x = 0 then [] else ((l.getD k (0, 0)).1, min (l.getD k (0, 0)).2 x) :: enoughL (l.drop (k + 1)) (x - min (l.getD k (0, 0)).2 x))) := ⟨by rw [HE.out, hdr]; rfl⟩
      clear hc hdr HE
      generalize l.getD k (0, 0) = y at *
      obtain ⟨p, q⟩ := y
      dsimp only at *
      by_cases hz : x = 0
      · subst hz
        have hRe : R = c := by rw [HE'.out]; simp
        have HRE := Kp.mk hRe
        clear hRe HE' HR
        go_wp2_with fail
        go_ret
        exact ⟨_, rfl, by rw [HRE.out]; exact HO.out.alloc _, HB.out.alloc hbs _⟩
      · have hzb : (x == 0) = false := by simpa using hz
        have HE2 : Kp (R = c ++ ((p, min q x) :: enoughL (l.drop (k + 1)) (x - min q x))) := ⟨by rw [HE'.out, if_neg hz]⟩
        clear HE' hz
        by_cases hqx : x < q
        · go_wp2_with (at_builtin; refine app1 (w0 := w) w.heap.size rfl (.tmp 25) (.tmp 27) 38 52 _ 2 16 rfl Try.underlying38 infoR rfl (by decide) _ c.length (prs c) [.int .i64 p, .int .i64 x] rfl _ rfl ?c0 rfl (prs_one' (p, x)) ?cO ?cB ?c1 ?c2 ?c3 ?_)
          case c0 => simp
          case cO => exact HO.out.alloc _
          case cB => exact HB.out.alloc hbs _
          case c1 => simp; omega
          case c2 => omega
          case c3 => omega
          rintro v1 w1 HO1 HB1 HG1
          clear HG1
          have hmin : min q x = x := by omega
          rw [hmin] at HE2
          clear hmin
          go_wp2_with fail
          exact ⟨⟨k + 1, x - x, c ++ [(p, x)], by omega, by go_num, by simp, by omega, by omega, by simp; omega, ⟨by rw [HE2.out]; simp⟩, ⟨by rw [prs_append, List.length_append]; exact HO1.out⟩, HB1⟩, by simp [intOf]; omega⟩
        · go_wp2_with (at_builtin; (refine app1 (w0 := w) w.heap.size rfl (.tmp 25) (.tmp 27) 38 52 _ 2 16 rfl Try.underlying38 infoR rfl (by decide) _ c.length (prs c) [.int .i64 p, .int .i64 q] rfl _ rfl ?d0 rfl (prs_one' (p, q)) ?dO ?dB ?d1 ?d2 ?d3 ?_))
          case dO => exact HO.out.alloc _
          case dB => exact HB.out.alloc hbs _
          case d1 => omega
          case d2 => omega
          case d3 => omega
          rintro v1 w1 HO1 HB1 HG1
          clear HG1
          have hmin : min q x = q := by omega
          rw [hmin] at HE2
          clear hmin
          go_wp2_with fail
          exact ⟨⟨k + 1, x - q, c ++ [(p, q)], by omega, by go_num, by simp, by omega, by omega, by simp; omega, ⟨by rw [HE2.out]; simp⟩, ⟨by rw [prs_append, List.length_append]; exact HO1.out⟩, HB1⟩, by simp [intOf]; omega⟩
    · have hke : l.drop k = [] := List.drop_of_length_le (by omega)
      have hRe : R = c := by rw [HE.out, hke]; simp [enoughL]
      have HRE := Kp.mk hRe
      clear hke hRe HE HR
      go_wp2_with fail
      go_ret
      exact ⟨_, rfl, by rw [HRE.out]; exact HO.out, HB.out⟩
end Go.Proofs.Ytdjnadnmlcpaaaa
