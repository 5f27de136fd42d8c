/- A rectangle that comes in by value, opened. -/
import Derived.Test.YtbpkffoooieejaaOpen
import Derived.Test.YtbpkffoooieejaaClip
namespace Go.Proofs.Ytbpkffoooieejaa
theorem rc_cells : Try.prog.cellsOf 36 = 4 := by kernel_rfl
theorem rc_types : ((Try.prog.cellTypes Try.prog.depth 36).getD []).all (· == 3) = true := by kernel_rfl
set_option maxRecDepth 100000 in
theorem open_rc {W : World} {r : Reach} {b0 : Nat} {v : Value} (hval : Value.okWide Try.prog W r b0 36 v) :
    ∃ x y a b : Int, v = .agg #[.int .i64 x, .int .i64 y, .int .i64 a, .int .i64 b] := by
  unfold Value.okWide at hval
  rw [rc_u] at hval
  obtain ⟨cs, rfl, hsz, ts, hts, _, hc⟩ := hval
  rw [rc_cells] at hsz
  have hall := rc_types
  rw [hts] at hall
  simp only [Option.getD_some, List.all_eq_true, beq_iff_eq] at hall
  have h1 : ∀ i, (hi : i < 4) → ∃ n : Int, cs[i]'(by omega) = .int .i64 n := by
    intro i hi
    have hi' : i < cs.size := by omega
    obtain ⟨u, hu, hok⟩ := hc i cs[i] (Array.getElem?_eq_getElem hi')
    have : u = 3 := hall u (List.mem_of_getElem? hu)
    subst this
    generalize cs[i] = c at hok
    unfold Cell.okWide at hok
    rw [Try.underlying3] at hok
    cases c <;> simp only [Cell.ok, Try.underlying3] at hok
    rename_i k n
    obtain ⟨rfl, _⟩ := hok
    exact ⟨n, rfl⟩
  obtain ⟨x, hx⟩ := h1 0 (by omega)
  obtain ⟨y, hy⟩ := h1 1 (by omega)
  obtain ⟨a, ha⟩ := h1 2 (by omega)
  obtain ⟨b, hb⟩ := h1 3 (by omega)
  refine ⟨x, y, a, b, ?_⟩
  congr 1
  apply Array.ext (by simpa using hsz)
  intro i hi1 hi2
  rcases (show i = 0 ∨ i = 1 ∨ i = 2 ∨ i = 3 by omega) with rfl | rfl | rfl | rfl
  · exact hx
  · exact hy
  · exact ha
  · exact hb
end Go.Proofs.Ytbpkffoooieejaa
