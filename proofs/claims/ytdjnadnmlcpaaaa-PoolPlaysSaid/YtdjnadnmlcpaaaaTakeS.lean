import Derived.Test.YtdjnadnmlcpaaaaTakeC
import Derived.Test.YtdjnadnmlcpaaaaPool3
/-! Take: the order is a strict weak one; the sort at no element; what Take hands back. -/
namespace Go.Proofs.Ytdjnadnmlcpaaaa
open Go.Shelf Go.RowKit Go.Lib Go.Sort

def keyT (n f o : Int) (x : Int × Int) : Int := if n ≤ x.2 ∧ nearB f o x = true then 1 else 0

theorem ltT (n f o : Int) (x y : Int × Int) : ltOf (cmpT n f o) x y = decide (min y.2 n < min x.2 n ∨ (min y.2 n = min x.2 n ∧ keyT n f o y < keyT n f o x)) := by
  unfold ltOf cmpT keyT Lib.compareInt
  generalize nearB f o x = nx
  generalize nearB f o y = ny
  by_cases h1 : n ≤ x.2 <;> by_cases h2 : n ≤ y.2 <;> cases nx <;> cases ny <;> simp [h1, h2] <;> (try omega) <;> (repeat' split) <;> simp <;> omega

theorem swoT (n f o : Int) : SWO (ltOf (cmpT n f o)) where
  irrefl x := by rw [ltT]; simp
  trans x y z h1 h2 := by rw [ltT] at *; simp only [decide_eq_true_eq] at *; omega
  ntrans x y z h1 h2 := by rw [ltT] at *; simp only [decide_eq_false_iff_not] at *; omega

theorem ins0_calls (g : Nat) (cb : Array Value) (A : Option Addr) (cap : Nat) (w : World) :
    Calls Try.prog 47 #[.slice A 0 cap, .int .i64 0, .int .i64 0, .func (.func g) #[] cb] w fun e w' => e = .returned (.tuple #[]) ∧ w' = w := by
  go_enter Try.func47, Try.ntmps47
  go_wp2
  go_loopw [8] (fun i wr => i = .int .i64 1 ∧ wr = w) (fun _ _ => 0)
  case atStart => exact ⟨rfl, rfl⟩
  case round =>
    obtain ⟨rfl, rfl⟩ := hrel
    go_wp2_with fail
    go_end0
    exact ⟨rfl, rfl⟩

theorem stab0_calls (g : Nat) (cb : Array Value) (A : Option Addr) (cap : Nat) (w : World) :
    Calls Try.prog 42 #[.slice A 0 cap, .int .i64 0, .func (.func g) #[] cb] w fun e w' => e = .returned (.tuple #[]) ∧ w' = w := by
  have h := ins0_calls g cb A cap w
  go_enter Try.func42, Try.ntmps42
  go_wp2_with fail
  go_loopw [7, 8] (fun a b wr => a = .int .i64 0 ∧ b = .int .i64 20 ∧ wr = w) (fun _ _ _ => 0)
  case atStart => exact ⟨rfl, rfl, rfl⟩
  case round =>
    obtain ⟨rfl, rfl, rfl⟩ := hrel
    go_wp2_with (go_at_call 47; refine h.mono ?_; rintro e w1 ⟨rfl, rfl⟩)
    go_loopw [6] (fun a wr => a = .int .i64 20 ∧ wr = w1) (fun _ _ => 0)
    case atStart => exact ⟨rfl, rfl⟩
    case round =>
      obtain ⟨rfl, rfl⟩ := hrel
      go_wp2_with fail
      go_end0
      exact ⟨rfl, rfl⟩

theorem stable0_calls (g : Nat) (cb : Array Value) (A : Option Addr) (cap : Nat) (w : World) :
    Calls Try.prog 29 #[.slice A 0 cap, .func (.func g) #[] cb] w fun e w' => e = .returned (.tuple #[]) ∧ w' = w := by
  have h := stab0_calls g cb A cap w
  go_enter Try.func29, Try.ntmps29
  go_wp2_with (go_at_call 42; refine h.mono ?_; rintro e w1 ⟨rfl, rfl⟩)
  go_end0
  exact ⟨rfl, rfl⟩
end Go.Proofs.Ytdjnadnmlcpaaaa
