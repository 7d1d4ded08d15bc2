import Derived.Test.YtdjnadnmlcpaaaaBase
import Derived.Shelf.SlSortCmp.QuietGrown
/-! (the tactic 'go_quiet_below' of the templates is written out by fill.py.) A region that draws its order, whose operations only read and whose callees keep what lay there: one walk, guards decided or not wanted. The class of worlds: 'Below'. -/
namespace Go.Proofs.Ytdjnadnmlcpaaaa
open Go Go.RowKit

structure BelowOf (w0 : World) where
  w : World
  h : Below w0.heap.size w0 w

instance (w0 : World) : Inhabited (BelowOf w0) := ⟨⟨w0, Below.refl _ _⟩⟩

theorem wp_region_quiet_below {P : Program} {id : Nat} {Q : Exit → Act → World → Prop} {a : Act} {w : World} {l : List Oper} (hm : P.follows .mixedOrders = true) (hB : Region.lexB .any l.toArray = true)
    (h : wpQuiet P l.toArray (fun w' => ∃ p : BelowOf w, w' = p.w) (fun a' => ∀ w', (∃ p : BelowOf w, w' = p.w) → Q .normal a' w') l a) : (Code.region id l.toArray true).wp P Q a w :=
  wp_region_quiet (C := fun w' => ∃ p : BelowOf w, w' = p.w) hm hB ⟨⟨w.drew, below_drewN (Below.refl _ _) 1⟩, rfl⟩ (by simpa using h)

theorem cell_bo {w : World} {a : Addr} {v : Value} (hb : a.block < w.heap.size) (h : w.cell? a = some v) (p : BelowOf w) : p.w.cell? a = some v := (p.h.cell hb).trans h

theorem Calls.bo {P : Program} {f : FuncId} {args : Array Value} {w : World} {p : BelowOf w} {v : Value}
    (h : Calls P f args p.w fun e w' => e = .returned v ∧ Below p.w.heap.size p.w w') : Calls P f args p.w fun e w'' => e = .returned v ∧ ∃ p' : BelowOf w, w'' = p'.w :=
  h.mono fun _ w' ⟨he, hb⟩ => ⟨he, ⟨w', below_then p.h hb⟩, rfl⟩

end Go.Proofs.Ytdjnadnmlcpaaaa
