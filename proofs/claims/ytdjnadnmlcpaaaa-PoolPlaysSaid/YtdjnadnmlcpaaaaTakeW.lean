import Derived.Test.YtdjnadnmlcpaaaaTake
import Derived.Laws.EntriesVeiled
import Derived.Test.YtdjnadnmlcpaaaaQuietB
/-! (*Pool).Take, the good arguments. -/
namespace Go.Proofs.Ytdjnadnmlcpaaaa
open Go.Shelf Go.RowKit Go.Lib Go.Sort

set_option maxHeartbeats 1000000 in
set_option maxRecDepth 100000 in
theorem take_good (q : Nat) (g : Geo) (bv : Value) (bs : List Int) (x n most : Int) (w : World) (h : PoolOk w q g bv bs) (hne : bv.ownBlock ≠ some q) (hw : g.b ≤ bs.length * 64) (h1 : 0 ≤ x) (h2 : x < g.c) (h3 : 0 ≤ n) (h3' : n ≤ 9223372036854775807) (h4 : 1 ≤ most) :
    Calls Try.prog 9 #[.pointer (some ⟨q, 0, none⟩), .int .i64 x, .int .i64 n, .int .i64 most] w fun e w' => TakeOut w w' e q g bv bs n most := by
  have HG : Kp (Calls Try.prog 26 #[.pointer (some ⟨q, 0, none⟩), .int .i64 x] (w.alloc (.cells #[.int .i64 n] 3)) fun e w' => ∃ a b : Int, e = .returned (.tuple #[.int .i64 a, .int .i64 b]) ∧ (0 ≤ a ∧ a ≤ 4096) ∧ (0 ≤ b ∧ b ≤ 4096) ∧ Below (w.alloc (.cells #[.int .i64 n] 3)).heap.size (w.alloc (.cells #[.int .i64 n] 3)) w') :=
    ⟨group_calls q g bv bs x _ (h.below ((Below.refl _ _).alloc (Nat.le_refl _) _))⟩
  have c2 := h.cells.2.2.1
  have hq := h.at_.lt
  have H : Kp _ := ⟨h⟩
  have HNE : Kp _ := ⟨hne⟩
  have HW : Kp _ := ⟨hw⟩
  obtain ⟨c, hc⟩ : ∃ c, c = g.c := ⟨_, rfl⟩
  rw [← hc] at c2 h2
  clear h hc hne hw
  go_enter Try.func9, Try.ntmps9
  go_wp2_with fail
  refine HG.out.mono ?_
  rintro e w1 ⟨a, b, rfl, ha, hb, hbw⟩
  have hn1 : w1.cell? ⟨w.heap.size, 0, none⟩ = some (.int .i64 n) := (hbw.cell (by simp)).trans (by simp)
  have hc1 : w1.cell? ⟨q, 2, none⟩ = some (.int .i64 c) := (hbw.cell (by simp; omega)).trans ((World.cell?_alloc_past _ _ _ hq).trans c2)
  have HB1 : Kp (Below w.heap.size w w1) := ⟨((Below.refl _ _).alloc (Nat.le_refl _) _).trans (hbw.mono (by simp))⟩
  have hsz : w.heap.size < w1.heap.size := by have := hbw.size; simp at this; omega
  have hq1 : q < w1.heap.size := by omega
  have h1b : decide (x < 0) = false := by simp; omega
  have h2b : decide (c ≤ x) = false := by simp; omega
  have h3b : decide (n < 0) = false := by simp; omega
  have h4b : decide (most < 1) = false := by simp; omega
  -- from, own
  obtain ⟨w2, hw2⟩ : ∃ w2, w2 = (w1.alloc (.cells #[.int .i64 a] 3)).alloc (.cells #[.int .i64 b] 3) := ⟨_, rfl⟩
  have HB2 : Kp (Below w.heap.size w w2) := ⟨by rw [hw2]; exact (HB1.out.alloc (by omega) _).alloc (by simp; omega) _⟩
  have hs2 : w2.heap.size = w1.heap.size + 2 := by rw [hw2]; simp
  have k1 : w2.cell? ⟨w.heap.size, 0, none⟩ = some (.int .i64 n) := by rw [hw2, World.cell?_alloc_past _ _ _ (by simp; omega), World.cell?_alloc_past _ _ _ hsz]; exact hn1
  have k2 : w2.cell? ⟨w1.heap.size, 0, none⟩ = some (.int .i64 a) := by rw [hw2]; simp
  have k3 : w2.cell? ⟨w1.heap.size + 1, 0, none⟩ = some (.int .i64 b) := by rw [hw2]; simp
  have HK : Kp (w2.cell? ⟨w.heap.size, 0, none⟩ = some (.int .i64 n) ∧ w2.cell? ⟨w1.heap.size, 0, none⟩ = some (.int .i64 a) ∧ w2.cell? ⟨w1.heap.size + 1, 0, none⟩ = some (.int .i64 b)) := ⟨k1, k2, k3⟩
  have HR : Kp _ := ⟨rows_calls q g bv bs w2 (H.out.below HB2.out) HW.out⟩
  clear hbw HG c2 k1 k2 k3
  go_wp2_with fail
  rw [← hw2]
  clear hw2 hn1 hc1
  refine HR.out.mono ?_
  rintro e w3 ⟨v3, rfl, hown, hb3⟩
  have HO3 : Kp _ := ⟨hown⟩
  have HB3 : Kp _ := ⟨hb3⟩
  have hs3 := hb3.size
  clear hown hb3 HR
  go_wp2_with fail
  obtain ⟨w4, hw4⟩ : ∃ w4, w4 = w3.alloc (.cells #[.func (.func 28) #[] #[.pointer (some ⟨w1.heap.size, 0, none⟩), .pointer (some ⟨w1.heap.size + 1, 0, none⟩)]] 69) := ⟨_, rfl⟩
  rw [← hw4]
  have hs4 : w4.heap.size = w3.heap.size + 1 := by rw [hw4]; simp
  have HB4 : Kp (Below w2.heap.size w2 w4) := ⟨by rw [hw4]; exact HB3.out.alloc hs3 _⟩
  have HC4 : Kp (Caught w4 w.heap.size w3.heap.size w1.heap.size (w1.heap.size + 1) n a b) := ⟨⟨(HB4.out.cell (by show w.heap.size < w2.heap.size; omega)).trans HK.out.1, by rw [hw4]; simp, (HB4.out.cell (by show w1.heap.size < w2.heap.size; omega)).trans HK.out.2.1, (HB4.out.cell (by show w1.heap.size + 1 < w2.heap.size; omega)).trans HK.out.2.2, ⟨by omega, by omega, by omega, by omega⟩, ha, hb⟩⟩
  have HO4 : Kp (w4.ownsRow w2.heap.size 52 2 v3 (rowsL bs g).length (prs (rowsL bs g))) := ⟨by rw [hw4]; exact HO3.out.alloc _⟩
  have HCB : Kp (∀ gg, v3.ownBlock = some gg → w3.heap.size ≠ gg) := ⟨fun gg hgg => by
    rcases HO3.out.2 with ⟨e1, e2⟩ | ⟨g', cap, cur, e1, e2, e3, e4⟩
    · rw [e1] at hgg; cases hgg
    · have := Blk.lt (t := 52) e3
      rw [e1] at hgg; injection hgg with hgg; subst hgg; show w3.heap.size ≠ g'; omega⟩
  have HS : Kp _ := ⟨takeSort w.heap.size w3.heap.size w1.heap.size (w1.heap.size + 1) n a b v3 (rowsL bs g) w2.heap.size w4 HC4.out (by omega) (rowsL_len H.out.good) HO4.out ⟨by omega, by omega, by omega⟩ HCB.out⟩
  refine HS.out.mono ?_
  rintro e w5 ⟨rfl, S, hSp, hSd, hS5, hb5⟩
  have KP : Kp (S.Perm (rowsL bs g) ∧ S.Pairwise (fun x y => min y.2 n ≤ min x.2 n)) := ⟨hSp, hSd⟩
  have HB5 : Kp (Below w.heap.size w w5) := ⟨(HB2.out.trans (HB4.out.mono HB2.out.size)).trans (hb5.mono HB2.out.size)⟩
  have hn5 : w5.cell? ⟨w.heap.size, 0, none⟩ = some (.int .i64 n) := (hb5.cell (by show w.heap.size < w2.heap.size; omega)).trans HC4.out.n_
  have hs5 := hb5.size
  obtain ⟨gb, -, -, -, ga, gf, ge, gd⟩ := Geo.good_bd H.out.good
  have hin : ∀ y ∈ S, g.from_ ≤ y.1 ∧ 1 ≤ y.2 ∧ y.1 + y.2 ≤ g.from_ + g.all := fun y hy => by
    have := rowsGo_in (bs := bs) (e := g.from_ + g.all) (lo := g.from_) (fun k h1 h2 => by have := HW.out; unfold thereB; simp; omega) (g.all.toNat + 1) g.from_ (Int.le_refl _) y (hSp.mem_iff.1 hy)
    exact ⟨this.1, this.2.1, this.2.2.1⟩
  have hSl : S.length ≤ 1024 := by rw [hSp.length_eq]; exact rowsL_len H.out.good
  have HE : Kp _ := ⟨enough_calls v3 S n w5 hS5 (by omega) h3 h3' (fun y hy => by have := hin y hy; omega)⟩
  have HIN : Kp _ := ⟨hin⟩
  clear hSp hSd hS5 hb5 hw4 HS HCB HO4 HC4 HB4 HO3 HB3 HK ha hb ga gf ge gd gb hin
  go_wp2_with fail
  refine HE.out.mono ?_
  rintro e w6 ⟨v6, rfl, hown6, hb6⟩
  obtain ⟨out, hout⟩ : ∃ out, out = enoughL S n := ⟨_, rfl⟩
  rw [← hout] at hown6
  have hol : out.length ≤ 1024 := by
    have hle : ∀ (l : List (Int × Int)) (m : Int), (enoughL l m).length ≤ l.length := by
      intro l
      induction l with
      | nil => intro m; simp [enoughL]
      | cons y l ih => intro m; rw [enoughL]; split <;> simp; exact ih _
    rw [hout]; exact Nat.le_trans (hle S n) hSl
  have hoin : ∀ y ∈ out, 1 ≤ y.2 → 0 ≤ y.1 ∧ y.1 + y.2 ≤ 1073741824 := fun y hy _ => by
    obtain ⟨z, hz, e1, e2, e3⟩ := enoughL_in S n h3 (fun z hz => (HIN.out z hz).2.1) y (by rw [← hout]; exact hy)
    obtain ⟨gb, -, -, -, ga, gf, ge, gd⟩ := Geo.good_bd H.out.good
    have := HIN.out z hz
    omega
  have HOUT : Kp (out = enoughL S n) := ⟨hout⟩
  have HOI : Kp _ := ⟨hoin⟩
  have HB6 : Kp (Below w.heap.size w w6) := ⟨HB5.out.trans (hb6.mono HB5.out.size)⟩
  have hn6 : w6.cell? ⟨w.heap.size, 0, none⟩ = some (.int .i64 n) := (hb6.cell (by show w.heap.size < w5.heap.size; omega)).trans hn5
  have HO6 : Kp _ := ⟨hown6⟩
  have HS6 : Kp (SlP w6 v6 out) := ⟨Sl.of_own hown6 (by omega)⟩
  obtain ⟨A6, cap6, hv6, _, _⟩ := HS6.out.form
  subst hv6
  obtain ⟨tot, htot⟩ : ∃ tot, tot = sumL (counts out) := ⟨_, rfl⟩
  have HTOT : Kp (tot = sumL (counts out)) := ⟨htot⟩
  have hs6 : w.heap.size < w6.heap.size := by have := hb6.size; omega
  have hq6 : q < w6.heap.size := by omega
  clear hown6 hb6 hout hoin htot HE hn5 hs5 hs4 hs3 hs2 HB2
  go_wp2_with fail
  have hT7 : ∀ p : BelowOf w6, Calls Try.prog 33 #[.slice A6 out.length cap6] p.w fun e w' => e = .returned (.int .i64 tot) ∧ Below p.w.heap.size p.w w' := fun p => by rw [HTOT.out]; exact total_calls _ out p.w (HS6.out.below p.h) (by omega)
  have hn7 : ∀ p : BelowOf w6, p.w.cell? ⟨w.heap.size, 0, none⟩ = some (.int .i64 n) := cell_bo hs6 hn6
  have mixed := Try.sortR.mixed
  by_cases h5 : tot < n
  · have h5b : decide (tot < n) = true := by simpa using h5
    (refine wp_region_quiet_below (by assumption) (by kernel_rfl) ?_
     repeat (quiet_step (first | (go_at_call 33; with_reducible refine Calls.bo (hT7 _))))
     refine wpQuiet_nil ?_
     intro wq hw'
     obtain ⟨p0, hp0⟩ := hw'
     have hbq := p0.h
     rw [← hp0] at hbq
     clear hp0 p0)
    have HB7 : Kp (Below w.heap.size w wq) := ⟨HB6.out.trans (hbq.mono (by omega))⟩
    clear hbq
    go_wp2_with fail
    go_ret2
    exact ⟨S, KP.out.1, KP.out.2, Or.inl ⟨by rw [← HOUT.out, ← HTOT.out]; exact Or.inl h5, rfl, HB7.out⟩⟩
  · have h5b : decide (tot < n) = false := by simpa using h5
    by_cases h6 : most < (out.length : Int)
    · have h6b : decide (most < (out.length : Int)) = true := by simpa using h6
      (refine wp_region_quiet_below (by assumption) (by kernel_rfl) ?_
       repeat (quiet_step (first | (go_at_call 33; with_reducible refine Calls.bo (hT7 _))))
       refine wpQuiet_nil ?_
       intro wq hw'
       obtain ⟨p0, hp0⟩ := hw'
       have hbq := p0.h
       rw [← hp0] at hbq
       clear hp0 p0)
      have HB7 : Kp (Below w.heap.size w wq) := ⟨HB6.out.trans (hbq.mono (by omega))⟩
      clear hbq
      go_wp2_with fail
      go_ret2
      exact ⟨S, KP.out.1, KP.out.2, Or.inl ⟨by rw [← HOUT.out, ← HTOT.out]; exact Or.inr h6, rfl, HB7.out⟩⟩
    · have h6b : decide (most < (out.length : Int)) = false := by simpa using h6
      (refine wp_region_quiet_below (by assumption) (by kernel_rfl) ?_
       repeat (quiet_step (first | (go_at_call 33; with_reducible refine Calls.bo (hT7 _))))
       refine wpQuiet_nil ?_
       intro wq hw'
       obtain ⟨p0, hp0⟩ := hw'
       have hbq := p0.h
       rw [← hp0] at hbq
       clear hp0 p0)
      have HB7 : Kp (Below w.heap.size w wq) := ⟨HB6.out.trans (hbq.mono (by omega))⟩
      have hb7' : Below w6.heap.size w6 wq := hbq
      have HS7 : Kp (SlP wq (.slice A6 out.length cap6) out) := ⟨HS6.out.below hb7'⟩
      have HO7 : Kp _ := ⟨own_below HO6.out hb7'⟩
      have HQ7 : Kp (Value.ownBlock (.slice A6 out.length cap6) ≠ some q) := ⟨fun hh => by
        rcases HO6.out.2 with ⟨e1, e2⟩ | ⟨g', cap, cur, e1, e2, e3, e4⟩
        · rw [e1] at hh; cases hh
        · rw [e1] at hh; injection hh with hh; have h8 := HB5.out.size; have h9 : g' = q := hh; have := H.out.at_.lt; omega⟩
      have HM : Kp _ := ⟨mark_calls q g bv (.slice A6 out.length cap6) bs out true wq (H.out.below HB7.out) HNE.out HS7.out (fun _ => HQ7.out) (by omega) HOI.out⟩
      clear hbq hb7'
      go_wp2_with fail
      refine HM.out.mono ?_
      rintro e w8 ⟨rfl, bv', hP⟩
      have HP : Kp (PoolTo w w8 q g bv' (markL bs true out)) := ⟨⟨hP.ok, grown_trans (grown_of_below HB7.out _) hP.grown, hP.own⟩⟩
      have HO8 : Kp (w8.ownsRow w.heap.size 52 2 (.slice A6 out.length cap6) out.length (prs out)) := ⟨own_weak (HO7.out.kept hP.grown (Or.inr HQ7.out)) HB5.out.size⟩
      clear hP HM
      go_wp2_with fail
      go_ret2
      refine ⟨S, KP.out.1, KP.out.2, Or.inr ⟨?_, ?_⟩⟩
      · rw [← HOUT.out, ← HTOT.out]; exact ⟨by omega, by omega⟩
      · rw [← HOUT.out]; exact ⟨_, bv', rfl, HO8.out, HP.out⟩
end Go.Proofs.Ytdjnadnmlcpaaaa
