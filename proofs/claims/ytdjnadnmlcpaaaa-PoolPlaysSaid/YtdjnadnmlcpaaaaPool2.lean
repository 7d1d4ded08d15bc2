import Derived.Test.YtdjnadnmlcpaaaaPool
import Derived.Deep.RegionHeld3
/-! Package pool: Free, New, Group, mark. -/
namespace Go.Proofs.Ytdjnadnmlcpaaaa
open Go.RowKit

theorem rowsGo_len (bs : List Int) (e : Int) : ∀ (F : Nat) (at_ : Int), (rowsGo bs e F at_).length ≤ F
  | 0, _ => by simp [rowsGo]
  | F + 1, at_ => by
    rw [rowsGo]
    split
    · simp
    · rename_i a _
      have := rowsGo_len bs e F ((nextB bs true a e).getD e)
      simp; exact this

theorem rowsL_len {bs : List Int} {g : Geo} (h : g.good = true) : (rowsL bs g).length ≤ 1024 := by
  have := rowsGo_len bs (g.from_ + g.all) (g.all.toNat + 1) g.from_
  obtain ⟨gb, -, -, -, ga, gf, ge, gd⟩ := Geo.good_bd h
  unfold rowsL
  omega

def freeN (bs : List Int) (g : Geo) : Int := sumL (counts (rowsL bs g))

set_option maxHeartbeats 1000000 in
theorem free_calls (q : Nat) (g : Geo) (bv : Value) (bs : List Int) (w : World) (h : PoolOk w q g bv bs) (hw : g.b ≤ bs.length * 64) :
    Calls Try.prog 19 #[.pointer (some ⟨q, 0, none⟩)] w fun e w' => e = .returned (.int .i64 (freeN bs g)) ∧ Below w.heap.size w w' := by
  have HR : Kp _ := ⟨rows_calls q g bv bs w h hw⟩
  have hl := rowsL_len (bs := bs) h.good
  unfold freeN
  generalize rowsL bs g = R at *
  clear h
  go_enter Try.func19, Try.ntmps19
  go_wp2_with fail
  refine HR.out.mono ?_
  rintro e w1 ⟨v1, rfl, hown, hb⟩
  have HT : Kp _ := ⟨total_calls v1 R w1 (Sl.of_own hown (by omega)) (by omega)⟩
  have HB : Kp _ := ⟨hb⟩
  clear hown hb HR
  go_wp2_with fail
  refine HT.out.mono ?_
  rintro e w2 ⟨rfl, hb2⟩
  have HB2 : Kp (Below w.heap.size w w2) := ⟨HB.out.trans (hb2.mono HB.out.size)⟩
  clear hb2 HB HT
  go_wp2_with fail
  go_ret
  exact ⟨rfl, HB2.out⟩

set_option maxHeartbeats 1000000 in
theorem pnew_calls (g : Geo) (bv : Value) (bs : List Int) (w : World) (hg : g.good = true) (hr : SlI w .u64 bv bs) (hp : 0 < bs.length) (hl : bs.length ≤ 1024) (hw : g.b ≤ bs.length * 64) :
    Calls Try.prog 6 #[g.val, .agg #[bv]] w fun e w' => ∃ q v', e = .returned (.tuple #[.pointer (some ⟨q, 0, none⟩), .int .i64 0]) ∧ w.heap.size ≤ q ∧ PoolOk w' q g v' bs ∧ w'.ownsRow w.heap.size 58 1 v' bs.length (ints .u64 bs) ∧ v'.ownBlock ≠ some q ∧ Below w.heap.size w w' := by
  have HR : Kp _ := ⟨hr⟩
  have HG : Kp _ := ⟨hg⟩
  obtain ⟨gb, -, -, -, ga, gf, ge, gd⟩ := Geo.good_bd hg
  obtain ⟨A, cap, hbv, hcap, hx⟩ := hr.form
  subst hbv
  clear hx hr hg
  have hgd := fun W => good_calls g W
  rw [HG.out] at hgd
  have HGD : Kp _ := ⟨hgd⟩
  have hq : (g.b + 64 - 1) / 64 ≤ (bs.length : Int) := by omega
  have HG0 : Kp _ := ⟨HG.out⟩
  obtain ⟨b, n, c, k⟩ := g
  simp only [Geo.val] at *
  clear hgd gd ge gf ga
  go_enter Try.func6, Try.ntmps6
  go_wp2_with fail
  refine (HGD.out _).mono ?_
  rintro e w1 ⟨rfl, hb⟩
  have HB : Kp (Below w.heap.size w w1) := ⟨(((Below.refl _ _).alloc (Nat.le_refl _) _).alloc (by simp) _).trans (hb.mono (by simp; omega))⟩
  have hsz : w.heap.size + 2 ≤ w1.heap.size := by have := hb.size; simp at this; omega
  have c0 := hb.cell (p := ⟨w.heap.size, 0, none⟩) (by simp; omega)
  have c1 := hb.cell (p := ⟨w.heap.size, 1, none⟩) (by simp; omega)
  have c2 := hb.cell (p := ⟨w.heap.size, 2, none⟩) (by simp; omega)
  have c3 := hb.cell (p := ⟨w.heap.size, 3, none⟩) (by simp; omega)
  have c4 := hb.cell (p := ⟨w.heap.size + 1, 0, none⟩) (by simp)
  simp at c0 c1 c2 c3 c4
  have HR1 : Kp (SlI w1 .u64 (.slice A bs.length cap) bs) := ⟨HR.out.below HB.out⟩
  have HS : Kp (∀ W, Below w1.heap.size w1 W → Calls Try.prog 17 #[.agg #[.slice A bs.length cap], .bool true, .slice none 0 0] W fun e w' => ∃ A' cp', e = .returned (.agg #[.slice A' bs.length cp']) ∧ Kp (w'.ownsRow W.heap.size 58 1 (.slice A' bs.length cp') bs.length (ints .u64 bs)) ∧ Below W.heap.size W w') :=
    ⟨fun W hW => (set_calls _ _ bs [] true W (HR1.out.below hW) (Sl.nil _ _) hp hl (by simp)).mono fun e w' h => by
      obtain ⟨v', h1, h2, h3⟩ := h
      obtain ⟨A', cp', h4, _, _⟩ := (Sl.of_own h2 (by omega)).form (by omega)
      subst h4
      exact ⟨A', cp', h1, ⟨h2⟩, h3⟩⟩
  have hcc : ∀ W, Below w1.heap.size w1 W → (W.cell? ⟨w.heap.size, 0, none⟩ = some (.int .i64 b) ∧ W.cell? ⟨w.heap.size, 1, none⟩ = some (.int .i64 n) ∧ W.cell? ⟨w.heap.size, 2, none⟩ = some (.int .i64 c) ∧ W.cell? ⟨w.heap.size, 3, none⟩ = some (.int .i64 k) ∧ W.cell? ⟨w.heap.size + 1, 0, none⟩ = some (.slice A bs.length cap)) :=
    fun W hW => ⟨(hW.cell (by simp; omega)).trans c0, (hW.cell (by simp; omega)).trans c1, (hW.cell (by simp; omega)).trans c2, (hW.cell (by simp; omega)).trans c3, (hW.cell (by simp; omega)).trans c4⟩
  have HC : Kp _ := ⟨hcc w1.drew (below_drewN (Below.refl _ _) 1)⟩
  have HCC : Kp _ := ⟨fun W (hW : Below w1.drew.heap.size w1.drew W) => hcc W ⟨hW.os, hW.tape, hW.output, hW.size, hW.block⟩⟩
  have HSD : Kp _ := ⟨HS.out w1.drew (below_drewN (Below.refl _ _) 1)⟩
  clear hb HGD hcc HS
  go_wp2_with fail
  clear c0 c1 c2 c3 c4 hw hcap gb hq HR HG
  have HW0 : Kp (Below w.heap.size w w1 ∧ w.heap.size + 2 ≤ w1.heap.size) := ⟨HB.out, hsz⟩
  clear HB hsz HR1
  go_region_held3 (fun w' => w'.cell? ⟨w.heap.size, 0, none⟩ = some (.int .i64 b) ∧ w'.cell? ⟨w.heap.size, 1, none⟩ = some (.int .i64 n) ∧ w'.cell? ⟨w.heap.size, 2, none⟩ = some (.int .i64 c) ∧ w'.cell? ⟨w.heap.size, 3, none⟩ = some (.int .i64 k) ∧ w'.cell? ⟨w.heap.size + 1, 0, none⟩ = some (.slice A bs.length cap))
    (first
      | exact HCC.out _ hb2
      | with_reducible exact HC.out
      | exact HCC.out _ (hb2.alloc hb2.size _))
    ((go_at_call 17; refine HSD.out.mono ?_; rintro e w2 ⟨A', cp', rfl, hown, hb2⟩))
  go_wp2_with fail
  go_ret2
  obtain ⟨x1, x2⟩ := HW0.out
  have hs2 : w1.heap.size ≤ w2.heap.size := hb2.size
  have hbw : Below w.heap.size w w2 := x1.trans ⟨hb2.os, hb2.tape, hb2.output, hb2.size, fun k hk => hb2.block k (by show k < w1.heap.size; omega)⟩
  have hown' := hown.out
  have hbk : Value.ownBlock (.slice A' bs.length cp') ≠ some w2.heap.size := by
    rcases hown'.2 with ⟨h2, h3⟩ | ⟨g, cap, cur, h1, h2, h3, h4⟩
    · omega
    · have : g < w2.heap.size := Blk.lt (t := 58) h3
      injection h1 with h1
      subst h1
      simp [Value.ownBlock]; omega
  refine ⟨w2.heap.size, .slice A' bs.length cp', rfl, by omega, ⟨Blk.new _ _ _, ?_, hp, hl, HG0.out, own_weak (hown'.alloc _) (Nat.zero_le _)⟩, own_weak (hown'.alloc _) (by show w.heap.size ≤ w1.heap.size; omega), hbk, hbw.alloc (by omega) _⟩
  exact (Sl.of_own hown' (by omega)).below ((Below.refl _ _).alloc (Nat.le_refl _) _)
end Go.Proofs.Ytdjnadnmlcpaaaa
