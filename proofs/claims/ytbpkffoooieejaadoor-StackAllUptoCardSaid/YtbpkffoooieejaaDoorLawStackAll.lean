/- The statement StackAll, as a tied card over the second row: where the arguments and the listed variable hold together at most 1048576 values and letters, the call returns true, and each argument reads behind it as it read before; the variable style.initial holds what the program's text lays. -/
import Derived.Test.YtbpkffoooieejaaDoorJoined
import Derived.Test.YtbpkffoooieejaaDoorOpen
import Derived.Test.YtbpkffoooieejaaDoorCards
import Derived.Test.YtbpkffoooieejaaDoorTie
import Derived.Test.YtbpkffoooieejaaDoorStAll
import Derived.Test.YtbpkffoooieejaaDoorOpenB2
import Derived.Test.YtbpkffoooieejaaDoorWitRow
import Derived.ProofKit
import Derived.OpenShut
import Derived.LaidMore
import Derived.Lay
import Derived.SevenTiedAt
import Derived.Stop.Joined
namespace Go.Proofs.YtbpkffoooieejaaDoor.lawStackAll
open Go.ChangeShapes Go.WideShapes Go.ChangeAt Go.RowKit
set_option linter.unusedVariables false

theorem own : ownKnob Tryd.prog.godebug = none := by kernel_rfl
theorem laidOut : laidOutB Tryd.prog = true := by kernel_rfl
theorem initial {W : World} (h : laidMetH Tryd.prog Rows.stackAllUptoRow.laid W) : ∃ G, IniAt W G := by
  rw [MakeChecks.laidMetH_plain _ _ _ (by kernel_rfl)] at h
  exact ini_at (Lib.laidMet.reads h (n := "clerestory/style.initial") (d := Rows.laid_clerestory_style_initial) (by simp [Rows.stackAllUptoRow])) (by kernel_rfl) (by kernel_rfl)
set_option maxRecDepth 100000 in
theorem contract (H : Type) (enc : TypeId × Value → H) (W : World) (base : Nat) (args : Array Value) (ds gs : List (DataW H)) (before : List MemPlace)
    (hval0 : ∀ (j : Nat) t v, Tryd.f3.params[j]? = some t → args[j]? = some v → Value.okWide Tryd.prog W .any base t v)
    (hW : DataW.Whole enc Tryd.prog Tryd.f3.params.toList Rows.stackAllSpec.vars false W args.toList ds gs before) (hcond : Rows.uptoSmall H (ds ++ gs) = true) (hL : laidMetH Tryd.prog Rows.stackAllUptoRow.laid W) :
    Calls Tryd.prog 3 args W fun e W' => ∃ v, e = .returned v ∧ Rows.stackAllSpec.post enc Tryd.prog Tryd.f3 false true false false W args v W' := by
  obtain ⟨G, hG⟩ := initial hL
  have hval : ∀ (j : Nat) t v, Tryd.f3.params[j]? = some t → args[j]? = some v → Value.okWide Tryd.prog W .any base t v := hval0
  have hW' := hW
  obtain ⟨p, q, hA0, hV, rfl, hfz, hnd⟩ := hW
  have hA : DataW.TrodAll enc Tryd.prog W 0 (fun _ => true) true Tryd.f3.params.toList args.toList ds p := hA0
  rw [Tryd.params3] at hA hval
  obtain ⟨v0, vs0, d0, ds0, p0, q0, hargs, rfl, rfl, h0, r0q⟩ := trodAll_cons hA
  obtain ⟨v1, vs1, d1, ds1, p1, q1, rfl, rfl, rfl, h1, r1q⟩ := trodAll_cons r0q
  obtain ⟨rfl, rfl, rfl⟩ := trodAll_nil r1q
  obtain rfl : args = #[v0, v1] := by cases args; simp_all
  obtain ⟨rfl, rfl⟩ := trodVars_none hV
  have k0 := h0
  have lt0 : ∀ x ∈ p0, x.block < W.heap.size := by obtain ⟨m, hm⟩ := k0; exact DataW.trod_lt m _ _ _ hm
  have k1 := h1
  have lt1 : ∀ x ∈ p1, x.block < W.heap.size := by obtain ⟨m, hm⟩ := k1; exact DataW.trod_lt m _ _ _ hm
  have hbk : Rows.uptoBulkAll ([d0, d1] ++ ([] : List (DataW H))) ≤ 1048576 := of_decide_eq_true hcond
  simp only [List.append_nil, Rows.uptoBulkAll] at hbk
  obtain ⟨As, ns, cs, rfl⟩ := okWide_slice Tryd.underlying22 (hval 0 22 v0 rfl rfl)
  obtain ⟨c1, rfl⟩ : ∃ c1, v1 = .agg c1 := by
    have h9 := hval 1 26 v1 rfl rfl
    unfold Value.okWide at h9
    rw [Tryd.underlying26] at h9
    obtain ⟨c1, h10, _⟩ := h9
    exact ⟨c1, h10⟩
  obtain ⟨m0, t0⟩ := h0
  obtain ⟨m1, t1⟩ := h1
  obtain ⟨As', ns', cs', R, e0, hns, hS⟩ := open_stys t0
  simp [Value.cells] at e0
  obtain ⟨rfl, rfl, rfl⟩ := e0
  obtain ⟨AB, AF, cB, cF, l, fs, lw, lh, e1, hB, hF, b1, b2⟩ := open_layout t1
  have e2 : c1 = #[.slice AB l.length cB, .slice AF fs.length cF, .int .i64 lw, .int .i64 lh] := by
    simp only [Value.cells] at e1
    rw [← Array.toArray_toList (xs := c1), e1]
  subst e2
  clear hA0 hval0
  have b3 : 4 * l.length ≤ Rows.uptoBulk d1 := b1
  have b4 : 4 * fs.length ≤ Rows.uptoBulk d1 := b2
  refine (stAll_any l fs AB AF As cB cF ns cs lw lh R G W hB hF (by omega) (by omega) hS hns hG).mono fun e W' ⟨he, bel⟩ => ?_
  subst he
  exact ⟨_, rfl, _, _, _, [], _, [], hW', trodAll_mk1 (shut_bool Tryd.underlying4 _), (trodAll_cons_mk (Below.trod laidOut (by kernel_rfl) (of_decide_eq_true (by kernel_rfl)) k0 bel lt0) (trodAll_cons_mk (Below.trod laidOut (by kernel_rfl) (of_decide_eq_true (by kernel_rfl)) k1 bel lt1) trodAll_mk0)), rfl, bel.frame _, fun h => by cases h⟩
noncomputable def W0 (os : Os) : World := World.laidAll Tryd.prog os Rows.stackAllUptoRow.laid
def A0 : Array Value := #[.slice none 0 0, .agg #[.slice none 0 0, .slice none 0 0, .int .i64 0, .int .i64 0]]
theorem reads (os : Os) {H : Type} (enc : TypeId × Value → H) : ∃ places, DataW.whole enc Tryd.prog ((W0 os).forCall (fun _ _ => 0) ⟨#[], A0, []⟩).memory Tryd.f3.params.toList Rows.stackAllSpec.vars false A0.toList 8 = some ([.nil, .agg [.nil, .nil, .lit (.int .i64 0), .lit (.int .i64 0)]], [], places) :=
  ⟨[], by kernel_rfl⟩
set_option maxRecDepth 100000 in
theorem lifted (os : Os) (started : os.Started) (H : Type) (enc : TypeId × Value → H) (F : Stop.Interp) :
    ReturnsInHanded {} Tryd.checked os 3 .any ((Rows.OpenSpec.upto Rows.stackAllSpec).preRow enc Tryd.prog Tryd.f3 Rows.stackAllUptoRow.domain false Rows.stackAllUptoRow.laid) (((Rows.OpenSpec.upto Rows.stackAllSpec).at F).post enc Tryd.prog Tryd.f3 false true false false) := by
  obtain ⟨places, hx⟩ := reads os enc
  refine returnsInHanded_of_row (C := Tryd.checked) (s := Rows.OpenSpec.upto Rows.stackAllSpec) own started (by kernel_rfl) Tryd.func3
    (witness_row_laid (enc := enc) (C := Tryd.checked) false (W0 os) A0 (World.laidAll_os _ _ _) (World.shaped_of_ZipB (by kernel_rfl) (by kernel_rfl)) (by kernel_rfl)
      (OpenSpec.preRow_of_cond 8 hx (by kernel_rfl) (fun k hk => by cases hk; kernel_rfl) (by kernel_rfl) (by rw [MakeChecks.laidMetH_plain _ _ _ (by kernel_rfl)]; exact laidMet_laidAll _ (by kernel_rfl) (by kernel_rfl)))) ?_
  intro W base args ds gs before hval hW _ hc _ hL _ _
  exact contract H enc W base args ds gs before hval hW (hc _ rfl) hL
theorem closed : joinedFacts Tryd.prog 3 Tryd.f3 Rows.stackAllSpec Rows.stackAllUptoRow = true := by
  unfold joinedFacts
  rw [make_is, lifts_is, may_enter]
  kernel_rfl
set_option maxRecDepth 100000 in
theorem over : Rows.StackAllUptoSaid :=
  OpenClaim.holds_of_cond 3 Tryd.f3 rfl rfl rfl rfl rfl rfl rfl ⟨rfl, rfl, rfl, rfl, rfl⟩ rfl rfl rfl rfl rfl (by kernel_rfl) Tryd.func3 closed
    (of_decide_eq_true (by kernel_rfl)) (by unfold Func.isWrapper; first | (rw [if_pos (by decide +kernel)]; kernel_rfl) | (rw [if_neg (by decide +kernel)]; exact ⟨rfl, rfl⟩))
    (fun os started H enc _ F => by rw [OpenClaim.pre_eq_preRow]; exact lifted os started H enc F)
/-- The statement. -/
theorem proved : Rows.StackAllUptoCardSaid :=
  Claim7.holds_tied_plain_at .later [] _ _ _ _ over (fun _ h => by cases h) (by kernel_rfl) (fun _ h => by cases h) stackAllUpto_row_tie rfl ⟨rfl, rfl⟩ (by kernel_rfl) rfl
    (fun f fn hf hfn => by
      obtain rfl : f = 3 := Option.some.inj ((show Tryd.prog.funcNamed "clerestory/clerestorykeep3.StackAll" = some 3 by kernel_rfl).symm.trans hf) |>.symm
      obtain rfl : fn = Tryd.f3 := (Option.some.inj (Tryd.func3.symm.trans hfn)).symm
      exact ⟨by kernel_rfl, fun j t ht => by
        rw [Tryd.params3] at ht
        have hm : t ∈ Tryd.f3.params.toList := by rw [Tryd.params3]; exact List.mem_of_getElem? (by rw [Array.getElem?_toList]; exact ht)
        have hall : (Tryd.f3.params.toList.all fun u => !Tryd.prog.wantsStandIn u) = true := by kernel_rfl
        exact (show Tryd.prog.wantsStandIn t = false by simpa using List.all_eq_true.1 hall t hm)⟩)
    (by kernel_rfl)
#print axioms proved
end Go.Proofs.YtbpkffoooieejaaDoor.lawStackAll
