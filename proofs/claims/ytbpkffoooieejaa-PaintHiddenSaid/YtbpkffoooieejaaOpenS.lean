/- A style that comes in by value, opened. -/
import Derived.Test.YtbpkffoooieejaaOpen
import Derived.Test.YtbpkffoooieejaaFrame
namespace Go.Proofs.Ytbpkffoooieejaa
theorem sty_cells : Try.prog.cellsOf 27 = 118 := by kernel_rfl
theorem sty_types : ((Try.prog.cellTypes Try.prog.depth 27).getD []).all (· == 3) = true := by kernel_rfl
theorem int_u : Try.prog.underlying 3 = some (.int .i64) := by kernel_rfl
set_option maxRecDepth 100000 in
theorem open_sty {W : World} {r : Reach} {b0 : Nat} {v : Value} (hval : Value.okWide Try.prog W r b0 27 v) :
    ∃ R : Nat → Int, v = .agg (styA R) ∧ ∀ j, -9223372036854775808 ≤ R j ∧ R j ≤ 9223372036854775807 := by
  unfold Value.okWide at hval
  rw [sty_u] at hval
  obtain ⟨cs, rfl, hsz, ts, hts, _, hc⟩ := hval
  rw [sty_cells] at hsz
  have hall := sty_types
  rw [hts] at hall
  simp only [Option.getD_some, List.all_eq_true, beq_iff_eq] at hall
  have h1 : ∀ i, i < 118 → ∃ n : Int, cs[i]? = some (.int .i64 n) ∧ -9223372036854775808 ≤ n ∧ n ≤ 9223372036854775807 := by
    intro i hi
    have hi' : i < cs.size := by omega
    obtain ⟨u, hu, hok⟩ := hc i cs[i] (Array.getElem?_eq_getElem hi')
    have : u = 3 := hall u (List.mem_of_getElem? hu)
    subst this
    rw [Array.getElem?_eq_getElem hi']
    generalize cs[i] = c at hok
    unfold Cell.okWide at hok
    rw [int_u] at hok
    cases c <;> simp only [Cell.ok, int_u] at hok
    rename_i k n
    obtain ⟨rfl, hk⟩ := hok
    have hk' := hk
    simp [IntKind.has, IntKind.min, IntKind.max, IntKind.signed, IntKind.bits] at hk'
    exact ⟨n, rfl, by omega, by omega⟩
  refine ⟨fun j => match cs[j]? with | some (.int .i64 n) => n | _ => 0, ?_, ?_⟩
  · congr 1
    apply Array.ext_getElem?
    intro j
    by_cases hj : j < 118
    · obtain ⟨n, hn, _⟩ := h1 j hj
      rw [styA_at _ hj, hn]
    · rw [Array.getElem?_eq_none (by omega), Array.getElem?_eq_none (by rw [styA_size]; omega)]
  · intro j
    by_cases hj : j < 118
    · obtain ⟨n, hn, hb⟩ := h1 j hj
      simp only [hn]
      exact hb
    · simp only [Array.getElem?_eq_none (show cs.size ≤ j by omega)]
      omega
end Go.Proofs.Ytbpkffoooieejaa
