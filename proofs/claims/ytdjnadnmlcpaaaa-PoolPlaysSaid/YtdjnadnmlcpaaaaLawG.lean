import Derived.Test.YtdjnadnmlcpaaaaLawF
/-! How many blocks can be free. -/
namespace Go.Proofs.Ytdjnadnmlcpaaaa
open Go.RowKit

theorem clr_bd (bs : List Int) (a : Int) : ∀ n : Nat, 0 ≤ clr bs a n ∧ clr bs a n ≤ n
  | 0 => by simp [clr]
  | n + 1 => by
    have := clr_bd bs a n
    rw [clr]
    split <;> omega

theorem freeN_bd' {g : Geo} {bs : List Int} {T : List (List (Int × Int))} (cs : List Int) (h : Sim g bs T) (hl : cs.length = bs.length) : 0 ≤ freeN cs g ∧ freeN cs g ≤ 1100 := by
  obtain ⟨gb, -, -, -, ga, gf, ge, gd⟩ := Geo.good_bd h.good
  rw [freeN_clr h.good (by rw [hl]; exact h.there)]
  have := clr_bd cs g.from_ g.all.toNat
  omega

theorem freeN_bd {g : Geo} {bs : List Int} {T : List (List (Int × Int))} (h : Sim g bs T) : 0 ≤ freeN bs g ∧ freeN bs g ≤ 1100 := freeN_bd' bs h rfl
end Go.Proofs.Ytdjnadnmlcpaaaa
