import Derived.Test.YtdjnadnmlcpaaaaBase
import Derived.Shelf.SlSortCmp.KitK
import Derived.Lib.OwnBridge
import Derived.Lib.AppendIntMem
/-! From a list's own row of runs to the sort's words and back. -/
namespace Go.Proofs.Ytdjnadnmlcpaaaa
open Go.Shelf Go.RowKit Go.Lib Go.Sort
variable {α : Type} [Inhabited α]

/-- A list of encoded elements, two cells each. -/
def encL (enc : α → List Value) (l : List α) : List Value := l.flatMap enc

theorem encL_get (enc : α → List Value) (hk : ∀ x, (enc x).length = 2) : ∀ (l : List α) (i c : Nat), i < l.length → c < 2 → (encL enc l)[i * 2 + c]? = some (enc l[i]!)[c]!
  | [], i, _, h, _ => by simp at h
  | x :: l, 0, c, _, hc => by
    show (enc x ++ encL enc l)[0 * 2 + c]? = _
    rw [Nat.zero_mul, Nat.zero_add, List.getElem?_append_left (by rw [hk]; exact hc), List.getElem?_eq_getElem (by rw [hk]; exact hc)]
    simp [getElem!_pos, hk, hc]
  | x :: l, i + 1, c, h, hc => by
    show (enc x ++ encL enc l)[(i + 1) * 2 + c]? = _
    rw [List.getElem?_append_right (by rw [hk]; omega), hk, show (i + 1) * 2 + c - 2 = i * 2 + c by omega, encL_get enc hk l i c (by simpa using h) hc]
    simp

omit [Inhabited α] in
theorem encL_len (enc : α → List Value) (hk : ∀ x, (enc x).length = 2) (l : List α) : (encL enc l).length = l.length * 2 := by
  induction l with
  | nil => rfl
  | cons x l ih => show (enc x ++ encL enc l).length = _; rw [List.length_append, hk, ih, List.length_cons]; omega

/-- An own row of encoded elements: as the sorts want it. -/
theorem own_sort {enc : α → List Value} (hk : ∀ x, (enc x).length = 2) {w : World} {base : Nat} {e : TypeId} {v : Value} {l : List α} (h : w.ownsRow base e 2 v l.length (encL enc l)) (hl : 0 < l.length) :
    ∃ g cap, v = .slice (some ⟨g, 0, none⟩) l.toArray.size cap ∧ l.length ≤ cap ∧ base ≤ g ∧ g < w.heap.size ∧ HoldsK enc 2 w g 0 l.toArray := by
  have hc := fun g hg => h.cells (g := g) hg
  rcases h.2 with ⟨_, h3⟩ | ⟨g, cap, cur, rfl, hb, hg, hnc, _, hs, _⟩
  · omega
  · refine ⟨g, cap, rfl, hnc, hb, (Blk.lt (t := e) hg), fun j hj => ?_⟩
    rw [size_flatK] at hj
    have hj' : j < l.length * 2 := hj
    have hx := hc g rfl j ((enc l[j / 2]!)[j % 2]!) (by
      have := encL_get enc hk l (j / 2) (j % 2) (by omega) (Nat.mod_lt _ (by omega))
      rwa [show j / 2 * 2 + j % 2 = j by omega] at this)
    rw [add_none] at hx
    refine ⟨?_, Blk.frozen (t := e) hg _⟩
    rw [get_flatK _ _ _ _ hj]
    simpa using hx

/-- .. and behind the sort. -/
theorem sort_back {enc : α → List Value} (hk : ∀ x, (enc x).length = 2) {w : World} {g base n : Nat} {l : List α} {d : Array α} {os : Array Obj} {cap : Nat} (hH : HoldsK enc 2 w g 0 l.toArray) (hg : g < w.heap.size) (hs : d.size = l.toArray.size)
    (hb : base ≤ g) (hc : d.size ≤ cap) (hl : l.length ≤ 1000000) (hbw : base ≤ w.heap.size) :
    Sl (sortWorldK enc 2 w g 0 n d os) 2 (.slice (some ⟨g, 0, none⟩) l.toArray.size cap) d.toList.length (encL enc d.toList) ∧ Below base w (sortWorldK enc 2 w g 0 n d os) ∧ w.heap.size ≤ (sortWorldK enc 2 w g 0 n d os).heap.size := by
  have h2 := holdsK_sortWorldK_c enc 2 w g 0 l.toArray d n os hH hg hs
  refine ⟨⟨encL_len enc hk _, by simp [hs]; omega, Or.inr ⟨⟨g, 0, none⟩, cap, by rw [← hs]; simp, by simpa using hc, fun j u hu => ?_⟩⟩, ?_, size_sortWorldK_c enc 2 w g 0 n d os⟩
  · have hj : j < d.size * 2 := by
      have := (List.getElem?_eq_some_iff.1 hu).1
      rw [encL_len enc hk] at this; simpa using this
    have h3 := h2.cell (i := j / 2) (c := j % 2) (by omega) (Nat.mod_lt _ (by omega))
    have h4 := encL_get enc hk d.toList (j / 2) (j % 2) (by simp; omega) (Nat.mod_lt _ (by omega))
    rw [show j / 2 * 2 + j % 2 = j by omega] at h4
    rw [add_none, show 0 + j = 0 + j / 2 * 2 + j % 2 by omega, h3.1, ← hu, h4]
    rw [show d.toList[j / 2]! = d[j / 2]! by rw [getElem!_pos d _ (by omega), getElem!_pos d.toList _ (by simp; omega)]; simp]
  · have hp : Below base w (putRow id (Sort.ahead w n) g 0 (flatK enc 2 d)) := below_putRow (Below.refl _ _) hb
    have hz : base ≤ (putRow id (Sort.ahead w n) g 0 (flatK enc 2 d)).heap.size := Nat.le_trans hbw hp.size
    exact hp.trans (Lib.below_grow base _ hz 0 os)
end Go.Proofs.Ytdjnadnmlcpaaaa
