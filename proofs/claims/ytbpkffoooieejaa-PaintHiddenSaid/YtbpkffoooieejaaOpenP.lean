/- A frag that comes in by value, opened. -/
import Derived.Test.YtbpkffoooieejaaOpenS
import Derived.Test.YtbpkffoooieejaaPaintLaw
namespace Go.Proofs.Ytbpkffoooieejaa
theorem frag_cells : Try.prog.cellsOf 23 = 8 := by kernel_rfl
set_option maxRecDepth 100000 in
theorem open_frag {W : World} {r : Reach} {b0 : Nat} {v : Value} (hval : Value.okWide Try.prog W r b0 23 v) : ∃ F : Array Value, v = .agg F ∧ F.size = 8 := by
  unfold Value.okWide at hval
  rw [frag_u] at hval
  obtain ⟨cs, rfl, hsz, _⟩ := hval
  exact ⟨cs, rfl, by rw [hsz, frag_cells]⟩
end Go.Proofs.Ytbpkffoooieejaa
