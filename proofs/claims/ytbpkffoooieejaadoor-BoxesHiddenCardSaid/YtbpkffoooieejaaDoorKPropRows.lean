/- The tables of prop (printed by mkprop.py), and the walks that read them. -/
import Derived.BigQuiet
import Derived.Handy
import Derived.IntWalk
import Derived.RegionTactic
import Derived.Deep.MidRow
import Derived.Test.YtbpkffoooieejaaDoorK2
set_option linter.unusedVariables false
set_option linter.unusedSimpArgs false
namespace Go.Proofs.YtbpkffoooieejaaDoor
open Go.ChangeShapes Go.WideShapes Go.ChangeAt Go.RowKit Go.Instr
/-- A row: its five cells. -/
structure PRow where
  name : ByteArray
  kinds : ByteArray
  keys : ByteArray
  auto : ByteArray
  above : Bool
def PRow.cells (r : PRow) : List Value := [.string r.name, .string r.kinds, .string r.keys, .string r.auto, .bool r.above]
def PRow.ok (r : PRow) : Bool := decide (r.kinds.size ≤ 200) && decide (r.keys.size ≤ 200)
def pcells (l : List PRow) : List Value := l.flatMap PRow.cells
theorem pcells_at : ∀ (l : List PRow) (p j : Nat) (hp : p < l.length), j < 5 → (pcells l)[p * 5 + j]? = (l[p]).cells[j]?
  | [], _, _, h, _ => absurd h (Nat.not_lt_zero _)
  | r :: l, 0, j, _, hj => by
    show (r.cells ++ pcells l)[0 * 5 + j]? = _
    rw [Nat.zero_mul, Nat.zero_add, List.getElem?_append_left (by simpa [PRow.cells] using hj)]; rfl
  | r :: l, p + 1, j, h, hj => by
    show (r.cells ++ pcells l)[(p + 1) * 5 + j]? = _
    rw [List.getElem?_append_right (by simp [PRow.cells]; omega), show (p + 1) * 5 + j - r.cells.length = p * 5 + j by simp [PRow.cells]; omega, pcells_at l p j (by simpa using h) hj]; rfl
theorem prow_u : Tryd.prog.underlying 108 = some (.struct (Tryd.prog.fieldsOf 108)) := by kernel_rfl
theorem prow_i (a b c d : ByteArray) (e : Bool) : (Tryd.prog.info? 108).map (·.size) = some (#[Value.string a, .string b, .string c, .string d, .bool e] : Array Value).size := by kernel_rfl
theorem prow_ones (a b c d : ByteArray) (e : Bool) : (#[Value.string a, .string b, .string c, .string d, .bool e] : Array Value).all (·.oneCell') = true := by simp [Value.oneCell']
def PRowPost (e : Ending) : Prop := ∃ r : PRow, e = .returned (.agg #[.string r.name, .string r.kinds, .string r.keys, .string r.auto, .bool r.above]) ∧ r.ok = true
def firstsL : List PRow := [⟨⟨#[100, 105, 115, 112, 108, 97, 121]⟩, ⟨#[107]⟩, ⟨#[110, 111, 110, 101, 32, 105, 110, 108, 105, 110, 101, 32, 98, 108, 111, 99, 107, 32, 105, 110, 108, 105, 110, 101, 45, 98, 108, 111, 99, 107, 32, 102, 108, 101, 120, 32, 116, 97, 98, 108, 101, 32, 116, 97, 98, 108, 101, 45, 114, 111, 119, 32, 116, 97, 98, 108, 101, 45, 99, 101, 108, 108, 32, 108, 105, 115, 116, 45, 105, 116, 101, 109, 32, 99, 111, 110, 116, 101, 110, 116, 115]⟩, ⟨#[]⟩, false⟩,
  ⟨⟨#[112, 111, 115, 105, 116, 105, 111, 110]⟩, ⟨#[107]⟩, ⟨#[115, 116, 97, 116, 105, 99, 32, 114, 101, 108, 97, 116, 105, 118, 101, 32, 97, 98, 115, 111, 108, 117, 116, 101, 32, 102, 105, 120, 101, 100]⟩, ⟨#[]⟩, false⟩,
  ⟨⟨#[102, 108, 111, 97, 116]⟩, ⟨#[107]⟩, ⟨#[110, 111, 110, 101, 32, 108, 101, 102, 116, 32, 114, 105, 103, 104, 116]⟩, ⟨#[]⟩, false⟩,
  ⟨⟨#[99, 108, 101, 97, 114]⟩, ⟨#[107]⟩, ⟨#[110, 111, 110, 101, 32, 108, 101, 102, 116, 32, 114, 105, 103, 104, 116, 32, 98, 111, 116, 104]⟩, ⟨#[]⟩, false⟩,
  ⟨⟨#[98, 111, 120, 45, 115, 105, 122, 105, 110, 103]⟩, ⟨#[107]⟩, ⟨#[99, 111, 110, 116, 101, 110, 116, 45, 98, 111, 120, 32, 98, 111, 114, 100, 101, 114, 45, 98, 111, 120]⟩, ⟨#[]⟩, false⟩,
  ⟨⟨#[119, 105, 100, 116, 104]⟩, ⟨#[108, 112, 97]⟩, ⟨#[]⟩, ⟨#[97, 117, 116, 111]⟩, true⟩,
  ⟨⟨#[104, 101, 105, 103, 104, 116]⟩, ⟨#[108, 112, 97]⟩, ⟨#[]⟩, ⟨#[97, 117, 116, 111]⟩, true⟩,
  ⟨⟨#[109, 105, 110, 45, 119, 105, 100, 116, 104]⟩, ⟨#[108, 112, 97]⟩, ⟨#[]⟩, ⟨#[97, 117, 116, 111]⟩, true⟩,
  ⟨⟨#[109, 105, 110, 45, 104, 101, 105, 103, 104, 116]⟩, ⟨#[108, 112, 97]⟩, ⟨#[]⟩, ⟨#[97, 117, 116, 111]⟩, true⟩,
  ⟨⟨#[109, 97, 120, 45, 119, 105, 100, 116, 104]⟩, ⟨#[108, 112, 97]⟩, ⟨#[]⟩, ⟨#[110, 111, 110, 101]⟩, true⟩,
  ⟨⟨#[109, 97, 120, 45, 104, 101, 105, 103, 104, 116]⟩, ⟨#[108, 112, 97]⟩, ⟨#[]⟩, ⟨#[110, 111, 110, 101]⟩, true⟩,
  ⟨⟨#[109, 97, 114, 103, 105, 110, 45, 116, 111, 112]⟩, ⟨#[108, 112, 97]⟩, ⟨#[]⟩, ⟨#[97, 117, 116, 111]⟩, false⟩,
  ⟨⟨#[109, 97, 114, 103, 105, 110, 45, 114, 105, 103, 104, 116]⟩, ⟨#[108, 112, 97]⟩, ⟨#[]⟩, ⟨#[97, 117, 116, 111]⟩, false⟩,
  ⟨⟨#[109, 97, 114, 103, 105, 110, 45, 98, 111, 116, 116, 111, 109]⟩, ⟨#[108, 112, 97]⟩, ⟨#[]⟩, ⟨#[97, 117, 116, 111]⟩, false⟩,
  ⟨⟨#[109, 97, 114, 103, 105, 110, 45, 108, 101, 102, 116]⟩, ⟨#[108, 112, 97]⟩, ⟨#[]⟩, ⟨#[97, 117, 116, 111]⟩, false⟩,
  ⟨⟨#[112, 97, 100, 100, 105, 110, 103, 45, 116, 111, 112]⟩, ⟨#[108, 112]⟩, ⟨#[]⟩, ⟨#[]⟩, true⟩,
  ⟨⟨#[112, 97, 100, 100, 105, 110, 103, 45, 114, 105, 103, 104, 116]⟩, ⟨#[108, 112]⟩, ⟨#[]⟩, ⟨#[]⟩, true⟩,
  ⟨⟨#[112, 97, 100, 100, 105, 110, 103, 45, 98, 111, 116, 116, 111, 109]⟩, ⟨#[108, 112]⟩, ⟨#[]⟩, ⟨#[]⟩, true⟩,
  ⟨⟨#[112, 97, 100, 100, 105, 110, 103, 45, 108, 101, 102, 116]⟩, ⟨#[108, 112]⟩, ⟨#[]⟩, ⟨#[]⟩, true⟩,
  ⟨⟨#[98, 111, 114, 100, 101, 114, 45, 116, 111, 112, 45, 119, 105, 100, 116, 104]⟩, ⟨#[108]⟩, ⟨#[]⟩, ⟨#[]⟩, true⟩]
def firstsC : Array Value := #[.string ⟨#[100, 105, 115, 112, 108, 97, 121]⟩, .string ⟨#[107]⟩, .string ⟨#[110, 111, 110, 101, 32, 105, 110, 108, 105, 110, 101, 32, 98, 108, 111, 99, 107, 32, 105, 110, 108, 105, 110, 101, 45, 98, 108, 111, 99, 107, 32, 102, 108, 101, 120, 32, 116, 97, 98, 108, 101, 32, 116, 97, 98, 108, 101, 45, 114, 111, 119, 32, 116, 97, 98, 108, 101, 45, 99, 101, 108, 108, 32, 108, 105, 115, 116, 45, 105, 116, 101, 109, 32, 99, 111, 110, 116, 101, 110, 116, 115]⟩, .string ⟨#[]⟩, .bool false,
  .string ⟨#[112, 111, 115, 105, 116, 105, 111, 110]⟩, .string ⟨#[107]⟩, .string ⟨#[115, 116, 97, 116, 105, 99, 32, 114, 101, 108, 97, 116, 105, 118, 101, 32, 97, 98, 115, 111, 108, 117, 116, 101, 32, 102, 105, 120, 101, 100]⟩, .string ⟨#[]⟩, .bool false,
  .string ⟨#[102, 108, 111, 97, 116]⟩, .string ⟨#[107]⟩, .string ⟨#[110, 111, 110, 101, 32, 108, 101, 102, 116, 32, 114, 105, 103, 104, 116]⟩, .string ⟨#[]⟩, .bool false,
  .string ⟨#[99, 108, 101, 97, 114]⟩, .string ⟨#[107]⟩, .string ⟨#[110, 111, 110, 101, 32, 108, 101, 102, 116, 32, 114, 105, 103, 104, 116, 32, 98, 111, 116, 104]⟩, .string ⟨#[]⟩, .bool false,
  .string ⟨#[98, 111, 120, 45, 115, 105, 122, 105, 110, 103]⟩, .string ⟨#[107]⟩, .string ⟨#[99, 111, 110, 116, 101, 110, 116, 45, 98, 111, 120, 32, 98, 111, 114, 100, 101, 114, 45, 98, 111, 120]⟩, .string ⟨#[]⟩, .bool false,
  .string ⟨#[119, 105, 100, 116, 104]⟩, .string ⟨#[108, 112, 97]⟩, .string ⟨#[]⟩, .string ⟨#[97, 117, 116, 111]⟩, .bool true,
  .string ⟨#[104, 101, 105, 103, 104, 116]⟩, .string ⟨#[108, 112, 97]⟩, .string ⟨#[]⟩, .string ⟨#[97, 117, 116, 111]⟩, .bool true,
  .string ⟨#[109, 105, 110, 45, 119, 105, 100, 116, 104]⟩, .string ⟨#[108, 112, 97]⟩, .string ⟨#[]⟩, .string ⟨#[97, 117, 116, 111]⟩, .bool true,
  .string ⟨#[109, 105, 110, 45, 104, 101, 105, 103, 104, 116]⟩, .string ⟨#[108, 112, 97]⟩, .string ⟨#[]⟩, .string ⟨#[97, 117, 116, 111]⟩, .bool true,
  .string ⟨#[109, 97, 120, 45, 119, 105, 100, 116, 104]⟩, .string ⟨#[108, 112, 97]⟩, .string ⟨#[]⟩, .string ⟨#[110, 111, 110, 101]⟩, .bool true,
  .string ⟨#[109, 97, 120, 45, 104, 101, 105, 103, 104, 116]⟩, .string ⟨#[108, 112, 97]⟩, .string ⟨#[]⟩, .string ⟨#[110, 111, 110, 101]⟩, .bool true,
  .string ⟨#[109, 97, 114, 103, 105, 110, 45, 116, 111, 112]⟩, .string ⟨#[108, 112, 97]⟩, .string ⟨#[]⟩, .string ⟨#[97, 117, 116, 111]⟩, .bool false,
  .string ⟨#[109, 97, 114, 103, 105, 110, 45, 114, 105, 103, 104, 116]⟩, .string ⟨#[108, 112, 97]⟩, .string ⟨#[]⟩, .string ⟨#[97, 117, 116, 111]⟩, .bool false,
  .string ⟨#[109, 97, 114, 103, 105, 110, 45, 98, 111, 116, 116, 111, 109]⟩, .string ⟨#[108, 112, 97]⟩, .string ⟨#[]⟩, .string ⟨#[97, 117, 116, 111]⟩, .bool false,
  .string ⟨#[109, 97, 114, 103, 105, 110, 45, 108, 101, 102, 116]⟩, .string ⟨#[108, 112, 97]⟩, .string ⟨#[]⟩, .string ⟨#[97, 117, 116, 111]⟩, .bool false,
  .string ⟨#[112, 97, 100, 100, 105, 110, 103, 45, 116, 111, 112]⟩, .string ⟨#[108, 112]⟩, .string ⟨#[]⟩, .string ⟨#[]⟩, .bool true,
  .string ⟨#[112, 97, 100, 100, 105, 110, 103, 45, 114, 105, 103, 104, 116]⟩, .string ⟨#[108, 112]⟩, .string ⟨#[]⟩, .string ⟨#[]⟩, .bool true,
  .string ⟨#[112, 97, 100, 100, 105, 110, 103, 45, 98, 111, 116, 116, 111, 109]⟩, .string ⟨#[108, 112]⟩, .string ⟨#[]⟩, .string ⟨#[]⟩, .bool true,
  .string ⟨#[112, 97, 100, 100, 105, 110, 103, 45, 108, 101, 102, 116]⟩, .string ⟨#[108, 112]⟩, .string ⟨#[]⟩, .string ⟨#[]⟩, .bool true,
  .string ⟨#[98, 111, 114, 100, 101, 114, 45, 116, 111, 112, 45, 119, 105, 100, 116, 104]⟩, .string ⟨#[108]⟩, .string ⟨#[]⟩, .string ⟨#[]⟩, .bool true]
theorem firsts_eq : firstsC = (pcells firstsL).toArray := by rfl
theorem firsts_sz : firstsC.size = Tryd.zeroCells154.size := by decide
theorem firsts_i : (Tryd.prog.info? 154).map (·.size) = some firstsC.size := by kernel_rfl
theorem firsts_ones : firstsC.all (·.oneCell') = true := by kernel_rfl
theorem firsts_ok : ∀ r ∈ firstsL, r.ok = true := List.all_eq_true.1 (by decide)
set_option maxRecDepth 100000 in
set_option maxHeartbeats 40000000 in
theorem firsts_any (p : Nat) (hp : p < 20) (w : World) : Calls Tryd.prog 81 #[.int .i64 (p : Int)] w fun e w' => PRowPost e ∧ Below w.heap.size w w' := by
  have hb1 := (Below.refl w.heap.size w).alloc (Nat.le_refl _) (.cells #[.string ⟨#[]⟩, .string ⟨#[]⟩, .string ⟨#[]⟩, .string ⟨#[]⟩, .bool false] 108)
  have HB := hide (hb1.alloc hb1.size (.cells Tryd.zeroCells154 154))
  have HZ := hide ((Blk.new w 108 #[.string ⟨#[]⟩, .string ⟨#[]⟩, .string ⟨#[]⟩, .string ⟨#[]⟩, .bool false]).alloc (.cells Tryd.zeroCells154 154))
  have hT := Blk.new (w.alloc (.cells #[.string ⟨#[]⟩, .string ⟨#[]⟩, .string ⟨#[]⟩, .string ⟨#[]⟩, .bool false] 108)) 154 Tryd.zeroCells154
  rw [show (w.alloc (.cells #[.string ⟨#[]⟩, .string ⟨#[]⟩, .string ⟨#[]⟩, .string ⟨#[]⟩, .bool false] 108)).heap.size = w.heap.size + 1 by simp] at hT
  have HT := hide hT; clear hT hb1
  have hp2 : p < firstsL.length := hp
  obtain ⟨r, hr⟩ : ∃ r, r = firstsL[p] := ⟨_, rfl⟩
  have HOK := hide (show r.ok = true by rw [hr]; exact firsts_ok _ (List.getElem_mem _))
  have HSZ := hide firsts_sz
  have HLD := hide (show ∀ W : World, Blk W (w.heap.size + 1) 154 firstsC → ∀ j u, (#[.string r.name, .string r.kinds, .string r.keys, .string r.auto, .bool r.above] : Array Value)[j]? = some u → W.cell? ⟨w.heap.size + 1, p * 5 + j, none⟩ = some u from fun W hW j u hu => by
    have hj : j < 5 := (Array.getElem?_eq_some_iff.1 hu).1
    rw [hW.cell (p * 5 + j), firsts_eq, List.getElem?_toArray, pcells_at _ _ _ hp2 hj, ← hr, ← hu]
    show r.cells[j]? = _
    unfold PRow.cells
    simp)
  clear hr
  go_enter Tryd.func81, Tryd.ntmps81
  go_wp2_with (first
    | (refine wpList_store_blk rfl 154 (.tmp 3) (.tmp 24) rfl (w.heap.size + 1) 154 _ firstsC rfl rfl HT.out HSZ.out firsts_i firsts_ones ?_; intro w8 hB8 hG8; have HT8 := hide (HLD.out w8 hB8); have HZ8 := hide (blk_grown HZ.out hG8 (by omega)); have HB8 := hide (below_grown HB.out (Nat.le_refl _) hG8 (Nat.le_succ _)); clear hB8 hG8; generalize World.alloc _ _ = w2 at *)
    | (refine wpList_load_mid rfl 108 (.tmp 26) rfl (w.heap.size + 1) (p * 5) rfl #[.string r.name, .string r.kinds, .string r.keys, .string r.auto, .bool r.above] _ HT8.out prow_u rfl (prow_i _ _ _ _ _) ?_)
    | (refine wpList_store_blk rfl 108 (.tmp 2) (.tmp 27) rfl w.heap.size 108 _ _ rfl rfl HZ8.out rfl (prow_i _ _ _ _ _) (prow_ones _ _ _ _ _) ?_; intro w9 hB9 hG9; have HZ9 := hide hB9; have HB9 := hide (below_grown HB8.out (Nat.le_refl _) hG9 (Nat.le_refl _)); clear hB9 hG9)
    | fail)
  refine bodyPost_ret (results_cell_row rfl _ _ w.heap.size 108 _ (0, 0) _ rfl HZ9.out prow_u rfl (prow_i _ _ _ _ _)) rfl ?_
  exact ⟨⟨r, rfl, HOK.out⟩, HB9.out⟩
def secondsL : List PRow := [⟨⟨#[98, 111, 114, 100, 101, 114, 45, 114, 105, 103, 104, 116, 45, 119, 105, 100, 116, 104]⟩, ⟨#[108]⟩, ⟨#[]⟩, ⟨#[]⟩, true⟩,
  ⟨⟨#[98, 111, 114, 100, 101, 114, 45, 98, 111, 116, 116, 111, 109, 45, 119, 105, 100, 116, 104]⟩, ⟨#[108]⟩, ⟨#[]⟩, ⟨#[]⟩, true⟩,
  ⟨⟨#[98, 111, 114, 100, 101, 114, 45, 108, 101, 102, 116, 45, 119, 105, 100, 116, 104]⟩, ⟨#[108]⟩, ⟨#[]⟩, ⟨#[]⟩, true⟩,
  ⟨⟨#[98, 111, 114, 100, 101, 114, 45, 116, 111, 112, 45, 99, 111, 108, 111, 114]⟩, ⟨#[99]⟩, ⟨#[]⟩, ⟨#[]⟩, false⟩,
  ⟨⟨#[98, 111, 114, 100, 101, 114, 45, 114, 105, 103, 104, 116, 45, 99, 111, 108, 111, 114]⟩, ⟨#[99]⟩, ⟨#[]⟩, ⟨#[]⟩, false⟩,
  ⟨⟨#[98, 111, 114, 100, 101, 114, 45, 98, 111, 116, 116, 111, 109, 45, 99, 111, 108, 111, 114]⟩, ⟨#[99]⟩, ⟨#[]⟩, ⟨#[]⟩, false⟩,
  ⟨⟨#[98, 111, 114, 100, 101, 114, 45, 108, 101, 102, 116, 45, 99, 111, 108, 111, 114]⟩, ⟨#[99]⟩, ⟨#[]⟩, ⟨#[]⟩, false⟩,
  ⟨⟨#[116, 111, 112]⟩, ⟨#[108, 112, 97]⟩, ⟨#[]⟩, ⟨#[97, 117, 116, 111]⟩, false⟩,
  ⟨⟨#[114, 105, 103, 104, 116]⟩, ⟨#[108, 112, 97]⟩, ⟨#[]⟩, ⟨#[97, 117, 116, 111]⟩, false⟩,
  ⟨⟨#[98, 111, 116, 116, 111, 109]⟩, ⟨#[108, 112, 97]⟩, ⟨#[]⟩, ⟨#[97, 117, 116, 111]⟩, false⟩,
  ⟨⟨#[108, 101, 102, 116]⟩, ⟨#[108, 112, 97]⟩, ⟨#[]⟩, ⟨#[97, 117, 116, 111]⟩, false⟩,
  ⟨⟨#[122, 45, 105, 110, 100, 101, 120]⟩, ⟨#[110, 97]⟩, ⟨#[]⟩, ⟨#[97, 117, 116, 111]⟩, false⟩,
  ⟨⟨#[111, 118, 101, 114, 102, 108, 111, 119]⟩, ⟨#[107]⟩, ⟨#[118, 105, 115, 105, 98, 108, 101, 32, 104, 105, 100, 100, 101, 110]⟩, ⟨#[]⟩, false⟩,
  ⟨⟨#[118, 105, 115, 105, 98, 105, 108, 105, 116, 121]⟩, ⟨#[107]⟩, ⟨#[118, 105, 115, 105, 98, 108, 101, 32, 104, 105, 100, 100, 101, 110]⟩, ⟨#[]⟩, false⟩,
  ⟨⟨#[111, 112, 97, 99, 105, 116, 121]⟩, ⟨#[110]⟩, ⟨#[]⟩, ⟨#[]⟩, true⟩,
  ⟨⟨#[99, 111, 108, 111, 114]⟩, ⟨#[99]⟩, ⟨#[]⟩, ⟨#[]⟩, false⟩,
  ⟨⟨#[98, 97, 99, 107, 103, 114, 111, 117, 110, 100, 45, 99, 111, 108, 111, 114]⟩, ⟨#[99]⟩, ⟨#[]⟩, ⟨#[]⟩, false⟩,
  ⟨⟨#[102, 111, 110, 116, 45, 115, 105, 122, 101]⟩, ⟨#[108]⟩, ⟨#[]⟩, ⟨#[]⟩, true⟩,
  ⟨⟨#[108, 105, 110, 101, 45, 104, 101, 105, 103, 104, 116]⟩, ⟨#[108, 110, 97]⟩, ⟨#[]⟩, ⟨#[110, 111, 114, 109, 97, 108]⟩, true⟩,
  ⟨⟨#[116, 101, 120, 116, 45, 97, 108, 105, 103, 110]⟩, ⟨#[107]⟩, ⟨#[115, 116, 97, 114, 116, 32, 101, 110, 100, 32, 99, 101, 110, 116, 101, 114, 32, 106, 117, 115, 116, 105, 102, 121]⟩, ⟨#[]⟩, false⟩]
def secondsC : Array Value := #[.string ⟨#[98, 111, 114, 100, 101, 114, 45, 114, 105, 103, 104, 116, 45, 119, 105, 100, 116, 104]⟩, .string ⟨#[108]⟩, .string ⟨#[]⟩, .string ⟨#[]⟩, .bool true,
  .string ⟨#[98, 111, 114, 100, 101, 114, 45, 98, 111, 116, 116, 111, 109, 45, 119, 105, 100, 116, 104]⟩, .string ⟨#[108]⟩, .string ⟨#[]⟩, .string ⟨#[]⟩, .bool true,
  .string ⟨#[98, 111, 114, 100, 101, 114, 45, 108, 101, 102, 116, 45, 119, 105, 100, 116, 104]⟩, .string ⟨#[108]⟩, .string ⟨#[]⟩, .string ⟨#[]⟩, .bool true,
  .string ⟨#[98, 111, 114, 100, 101, 114, 45, 116, 111, 112, 45, 99, 111, 108, 111, 114]⟩, .string ⟨#[99]⟩, .string ⟨#[]⟩, .string ⟨#[]⟩, .bool false,
  .string ⟨#[98, 111, 114, 100, 101, 114, 45, 114, 105, 103, 104, 116, 45, 99, 111, 108, 111, 114]⟩, .string ⟨#[99]⟩, .string ⟨#[]⟩, .string ⟨#[]⟩, .bool false,
  .string ⟨#[98, 111, 114, 100, 101, 114, 45, 98, 111, 116, 116, 111, 109, 45, 99, 111, 108, 111, 114]⟩, .string ⟨#[99]⟩, .string ⟨#[]⟩, .string ⟨#[]⟩, .bool false,
  .string ⟨#[98, 111, 114, 100, 101, 114, 45, 108, 101, 102, 116, 45, 99, 111, 108, 111, 114]⟩, .string ⟨#[99]⟩, .string ⟨#[]⟩, .string ⟨#[]⟩, .bool false,
  .string ⟨#[116, 111, 112]⟩, .string ⟨#[108, 112, 97]⟩, .string ⟨#[]⟩, .string ⟨#[97, 117, 116, 111]⟩, .bool false,
  .string ⟨#[114, 105, 103, 104, 116]⟩, .string ⟨#[108, 112, 97]⟩, .string ⟨#[]⟩, .string ⟨#[97, 117, 116, 111]⟩, .bool false,
  .string ⟨#[98, 111, 116, 116, 111, 109]⟩, .string ⟨#[108, 112, 97]⟩, .string ⟨#[]⟩, .string ⟨#[97, 117, 116, 111]⟩, .bool false,
  .string ⟨#[108, 101, 102, 116]⟩, .string ⟨#[108, 112, 97]⟩, .string ⟨#[]⟩, .string ⟨#[97, 117, 116, 111]⟩, .bool false,
  .string ⟨#[122, 45, 105, 110, 100, 101, 120]⟩, .string ⟨#[110, 97]⟩, .string ⟨#[]⟩, .string ⟨#[97, 117, 116, 111]⟩, .bool false,
  .string ⟨#[111, 118, 101, 114, 102, 108, 111, 119]⟩, .string ⟨#[107]⟩, .string ⟨#[118, 105, 115, 105, 98, 108, 101, 32, 104, 105, 100, 100, 101, 110]⟩, .string ⟨#[]⟩, .bool false,
  .string ⟨#[118, 105, 115, 105, 98, 105, 108, 105, 116, 121]⟩, .string ⟨#[107]⟩, .string ⟨#[118, 105, 115, 105, 98, 108, 101, 32, 104, 105, 100, 100, 101, 110]⟩, .string ⟨#[]⟩, .bool false,
  .string ⟨#[111, 112, 97, 99, 105, 116, 121]⟩, .string ⟨#[110]⟩, .string ⟨#[]⟩, .string ⟨#[]⟩, .bool true,
  .string ⟨#[99, 111, 108, 111, 114]⟩, .string ⟨#[99]⟩, .string ⟨#[]⟩, .string ⟨#[]⟩, .bool false,
  .string ⟨#[98, 97, 99, 107, 103, 114, 111, 117, 110, 100, 45, 99, 111, 108, 111, 114]⟩, .string ⟨#[99]⟩, .string ⟨#[]⟩, .string ⟨#[]⟩, .bool false,
  .string ⟨#[102, 111, 110, 116, 45, 115, 105, 122, 101]⟩, .string ⟨#[108]⟩, .string ⟨#[]⟩, .string ⟨#[]⟩, .bool true,
  .string ⟨#[108, 105, 110, 101, 45, 104, 101, 105, 103, 104, 116]⟩, .string ⟨#[108, 110, 97]⟩, .string ⟨#[]⟩, .string ⟨#[110, 111, 114, 109, 97, 108]⟩, .bool true,
  .string ⟨#[116, 101, 120, 116, 45, 97, 108, 105, 103, 110]⟩, .string ⟨#[107]⟩, .string ⟨#[115, 116, 97, 114, 116, 32, 101, 110, 100, 32, 99, 101, 110, 116, 101, 114, 32, 106, 117, 115, 116, 105, 102, 121]⟩, .string ⟨#[]⟩, .bool false]
theorem seconds_eq : secondsC = (pcells secondsL).toArray := by rfl
theorem seconds_sz : secondsC.size = Tryd.zeroCells154.size := by decide
theorem seconds_i : (Tryd.prog.info? 154).map (·.size) = some secondsC.size := by kernel_rfl
theorem seconds_ones : secondsC.all (·.oneCell') = true := by kernel_rfl
theorem seconds_ok : ∀ r ∈ secondsL, r.ok = true := List.all_eq_true.1 (by decide)
set_option maxRecDepth 100000 in
set_option maxHeartbeats 40000000 in
theorem seconds_any (p : Nat) (hp : p < 20) (w : World) : Calls Tryd.prog 82 #[.int .i64 (p : Int)] w fun e w' => PRowPost e ∧ Below w.heap.size w w' := by
  have hb1 := (Below.refl w.heap.size w).alloc (Nat.le_refl _) (.cells #[.string ⟨#[]⟩, .string ⟨#[]⟩, .string ⟨#[]⟩, .string ⟨#[]⟩, .bool false] 108)
  have HB := hide (hb1.alloc hb1.size (.cells Tryd.zeroCells154 154))
  have HZ := hide ((Blk.new w 108 #[.string ⟨#[]⟩, .string ⟨#[]⟩, .string ⟨#[]⟩, .string ⟨#[]⟩, .bool false]).alloc (.cells Tryd.zeroCells154 154))
  have hT := Blk.new (w.alloc (.cells #[.string ⟨#[]⟩, .string ⟨#[]⟩, .string ⟨#[]⟩, .string ⟨#[]⟩, .bool false] 108)) 154 Tryd.zeroCells154
  rw [show (w.alloc (.cells #[.string ⟨#[]⟩, .string ⟨#[]⟩, .string ⟨#[]⟩, .string ⟨#[]⟩, .bool false] 108)).heap.size = w.heap.size + 1 by simp] at hT
  have HT := hide hT; clear hT hb1
  have hp2 : p < secondsL.length := hp
  obtain ⟨r, hr⟩ : ∃ r, r = secondsL[p] := ⟨_, rfl⟩
  have HOK := hide (show r.ok = true by rw [hr]; exact seconds_ok _ (List.getElem_mem _))
  have HSZ := hide seconds_sz
  have HLD := hide (show ∀ W : World, Blk W (w.heap.size + 1) 154 secondsC → ∀ j u, (#[.string r.name, .string r.kinds, .string r.keys, .string r.auto, .bool r.above] : Array Value)[j]? = some u → W.cell? ⟨w.heap.size + 1, p * 5 + j, none⟩ = some u from fun W hW j u hu => by
    have hj : j < 5 := (Array.getElem?_eq_some_iff.1 hu).1
    rw [hW.cell (p * 5 + j), seconds_eq, List.getElem?_toArray, pcells_at _ _ _ hp2 hj, ← hr, ← hu]
    show r.cells[j]? = _
    unfold PRow.cells
    simp)
  clear hr
  go_enter Tryd.func82, Tryd.ntmps82
  go_wp2_with (first
    | (refine wpList_store_blk rfl 154 (.tmp 3) (.tmp 24) rfl (w.heap.size + 1) 154 _ secondsC rfl rfl HT.out HSZ.out seconds_i seconds_ones ?_; intro w8 hB8 hG8; have HT8 := hide (HLD.out w8 hB8); have HZ8 := hide (blk_grown HZ.out hG8 (by omega)); have HB8 := hide (below_grown HB.out (Nat.le_refl _) hG8 (Nat.le_succ _)); clear hB8 hG8; generalize World.alloc _ _ = w2 at *)
    | (refine wpList_load_mid rfl 108 (.tmp 26) rfl (w.heap.size + 1) (p * 5) rfl #[.string r.name, .string r.kinds, .string r.keys, .string r.auto, .bool r.above] _ HT8.out prow_u rfl (prow_i _ _ _ _ _) ?_)
    | (refine wpList_store_blk rfl 108 (.tmp 2) (.tmp 27) rfl w.heap.size 108 _ _ rfl rfl HZ8.out rfl (prow_i _ _ _ _ _) (prow_ones _ _ _ _ _) ?_; intro w9 hB9 hG9; have HZ9 := hide hB9; have HB9 := hide (below_grown HB8.out (Nat.le_refl _) hG9 (Nat.le_refl _)); clear hB9 hG9)
    | fail)
  refine bodyPost_ret (results_cell_row rfl _ _ w.heap.size 108 _ (0, 0) _ rfl HZ9.out prow_u rfl (prow_i _ _ _ _ _)) rfl ?_
  exact ⟨⟨r, rfl, HOK.out⟩, HB9.out⟩
def thirdsL : List PRow := [⟨⟨#[116, 101, 120, 116, 45, 105, 110, 100, 101, 110, 116]⟩, ⟨#[108, 112]⟩, ⟨#[]⟩, ⟨#[]⟩, false⟩,
  ⟨⟨#[119, 104, 105, 116, 101, 45, 115, 112, 97, 99, 101]⟩, ⟨#[107]⟩, ⟨#[110, 111, 114, 109, 97, 108, 32, 112, 114, 101, 32, 110, 111, 119, 114, 97, 112, 32, 112, 114, 101, 45, 119, 114, 97, 112]⟩, ⟨#[]⟩, false⟩,
  ⟨⟨#[118, 101, 114, 116, 105, 99, 97, 108, 45, 97, 108, 105, 103, 110]⟩, ⟨#[107, 108]⟩, ⟨#[98, 97, 115, 101, 108, 105, 110, 101, 32, 116, 111, 112, 32, 109, 105, 100, 100, 108, 101, 32, 98, 111, 116, 116, 111, 109]⟩, ⟨#[]⟩, false⟩,
  ⟨⟨#[116, 101, 120, 116, 45, 116, 114, 97, 110, 115, 102, 111, 114, 109]⟩, ⟨#[107]⟩, ⟨#[110, 111, 110, 101, 32, 117, 112, 112, 101, 114, 99, 97, 115, 101, 32, 108, 111, 119, 101, 114, 99, 97, 115, 101]⟩, ⟨#[]⟩, false⟩,
  ⟨⟨#[108, 101, 116, 116, 101, 114, 45, 115, 112, 97, 99, 105, 110, 103]⟩, ⟨#[108, 97]⟩, ⟨#[]⟩, ⟨#[110, 111, 114, 109, 97, 108]⟩, false⟩,
  ⟨⟨#[102, 108, 101, 120, 45, 100, 105, 114, 101, 99, 116, 105, 111, 110]⟩, ⟨#[107]⟩, ⟨#[114, 111, 119, 32, 114, 111, 119, 45, 114, 101, 118, 101, 114, 115, 101, 32, 99, 111, 108, 117, 109, 110, 32, 99, 111, 108, 117, 109, 110, 45, 114, 101, 118, 101, 114, 115, 101]⟩, ⟨#[]⟩, false⟩,
  ⟨⟨#[102, 108, 101, 120, 45, 119, 114, 97, 112]⟩, ⟨#[107]⟩, ⟨#[110, 111, 119, 114, 97, 112, 32, 119, 114, 97, 112]⟩, ⟨#[]⟩, false⟩,
  ⟨⟨#[106, 117, 115, 116, 105, 102, 121, 45, 99, 111, 110, 116, 101, 110, 116]⟩, ⟨#[107]⟩, ⟨#[102, 108, 101, 120, 45, 115, 116, 97, 114, 116, 32, 102, 108, 101, 120, 45, 101, 110, 100, 32, 99, 101, 110, 116, 101, 114, 32, 45, 32, 115, 112, 97, 99, 101, 45, 98, 101, 116, 119, 101, 101, 110, 32, 115, 112, 97, 99, 101, 45, 97, 114, 111, 117, 110, 100]⟩, ⟨#[]⟩, false⟩,
  ⟨⟨#[97, 108, 105, 103, 110, 45, 105, 116, 101, 109, 115]⟩, ⟨#[107]⟩, ⟨#[102, 108, 101, 120, 45, 115, 116, 97, 114, 116, 32, 102, 108, 101, 120, 45, 101, 110, 100, 32, 99, 101, 110, 116, 101, 114, 32, 45, 32, 45, 32, 45, 32, 115, 116, 114, 101, 116, 99, 104]⟩, ⟨#[]⟩, false⟩,
  ⟨⟨#[97, 108, 105, 103, 110, 45, 115, 101, 108, 102]⟩, ⟨#[107, 97]⟩, ⟨#[102, 108, 101, 120, 45, 115, 116, 97, 114, 116, 32, 102, 108, 101, 120, 45, 101, 110, 100, 32, 99, 101, 110, 116, 101, 114, 32, 45, 32, 45, 32, 45, 32, 115, 116, 114, 101, 116, 99, 104]⟩, ⟨#[97, 117, 116, 111]⟩, false⟩,
  ⟨⟨#[102, 108, 101, 120, 45, 103, 114, 111, 119]⟩, ⟨#[110]⟩, ⟨#[]⟩, ⟨#[]⟩, true⟩,
  ⟨⟨#[102, 108, 101, 120, 45, 115, 104, 114, 105, 110, 107]⟩, ⟨#[110]⟩, ⟨#[]⟩, ⟨#[]⟩, true⟩,
  ⟨⟨#[102, 108, 101, 120, 45, 98, 97, 115, 105, 115]⟩, ⟨#[108, 112, 97]⟩, ⟨#[]⟩, ⟨#[97, 117, 116, 111]⟩, true⟩,
  ⟨⟨#[111, 114, 100, 101, 114]⟩, ⟨#[110]⟩, ⟨#[]⟩, ⟨#[]⟩, false⟩,
  ⟨⟨#[103, 97, 112]⟩, ⟨#[108]⟩, ⟨#[]⟩, ⟨#[]⟩, true⟩,
  ⟨⟨#[116, 97, 98, 108, 101, 45, 108, 97, 121, 111, 117, 116]⟩, ⟨#[107]⟩, ⟨#[97, 117, 116, 111, 32, 102, 105, 120, 101, 100]⟩, ⟨#[]⟩, false⟩,
  ⟨⟨#[98, 111, 114, 100, 101, 114, 45, 115, 112, 97, 99, 105, 110, 103]⟩, ⟨#[108]⟩, ⟨#[]⟩, ⟨#[]⟩, true⟩,
  ⟨⟨#[108, 105, 115, 116, 45, 115, 116, 121, 108, 101, 45, 116, 121, 112, 101]⟩, ⟨#[107]⟩, ⟨#[110, 111, 110, 101, 32, 100, 105, 115, 99, 32, 100, 101, 99, 105, 109, 97, 108]⟩, ⟨#[]⟩, false⟩,
  ⟨⟨#[112, 111, 105, 110, 116, 101, 114, 45, 101, 118, 101, 110, 116, 115]⟩, ⟨#[107]⟩, ⟨#[97, 117, 116, 111, 32, 110, 111, 110, 101]⟩, ⟨#[]⟩, false⟩]
def thirdsC : Array Value := #[.string ⟨#[116, 101, 120, 116, 45, 105, 110, 100, 101, 110, 116]⟩, .string ⟨#[108, 112]⟩, .string ⟨#[]⟩, .string ⟨#[]⟩, .bool false,
  .string ⟨#[119, 104, 105, 116, 101, 45, 115, 112, 97, 99, 101]⟩, .string ⟨#[107]⟩, .string ⟨#[110, 111, 114, 109, 97, 108, 32, 112, 114, 101, 32, 110, 111, 119, 114, 97, 112, 32, 112, 114, 101, 45, 119, 114, 97, 112]⟩, .string ⟨#[]⟩, .bool false,
  .string ⟨#[118, 101, 114, 116, 105, 99, 97, 108, 45, 97, 108, 105, 103, 110]⟩, .string ⟨#[107, 108]⟩, .string ⟨#[98, 97, 115, 101, 108, 105, 110, 101, 32, 116, 111, 112, 32, 109, 105, 100, 100, 108, 101, 32, 98, 111, 116, 116, 111, 109]⟩, .string ⟨#[]⟩, .bool false,
  .string ⟨#[116, 101, 120, 116, 45, 116, 114, 97, 110, 115, 102, 111, 114, 109]⟩, .string ⟨#[107]⟩, .string ⟨#[110, 111, 110, 101, 32, 117, 112, 112, 101, 114, 99, 97, 115, 101, 32, 108, 111, 119, 101, 114, 99, 97, 115, 101]⟩, .string ⟨#[]⟩, .bool false,
  .string ⟨#[108, 101, 116, 116, 101, 114, 45, 115, 112, 97, 99, 105, 110, 103]⟩, .string ⟨#[108, 97]⟩, .string ⟨#[]⟩, .string ⟨#[110, 111, 114, 109, 97, 108]⟩, .bool false,
  .string ⟨#[102, 108, 101, 120, 45, 100, 105, 114, 101, 99, 116, 105, 111, 110]⟩, .string ⟨#[107]⟩, .string ⟨#[114, 111, 119, 32, 114, 111, 119, 45, 114, 101, 118, 101, 114, 115, 101, 32, 99, 111, 108, 117, 109, 110, 32, 99, 111, 108, 117, 109, 110, 45, 114, 101, 118, 101, 114, 115, 101]⟩, .string ⟨#[]⟩, .bool false,
  .string ⟨#[102, 108, 101, 120, 45, 119, 114, 97, 112]⟩, .string ⟨#[107]⟩, .string ⟨#[110, 111, 119, 114, 97, 112, 32, 119, 114, 97, 112]⟩, .string ⟨#[]⟩, .bool false,
  .string ⟨#[106, 117, 115, 116, 105, 102, 121, 45, 99, 111, 110, 116, 101, 110, 116]⟩, .string ⟨#[107]⟩, .string ⟨#[102, 108, 101, 120, 45, 115, 116, 97, 114, 116, 32, 102, 108, 101, 120, 45, 101, 110, 100, 32, 99, 101, 110, 116, 101, 114, 32, 45, 32, 115, 112, 97, 99, 101, 45, 98, 101, 116, 119, 101, 101, 110, 32, 115, 112, 97, 99, 101, 45, 97, 114, 111, 117, 110, 100]⟩, .string ⟨#[]⟩, .bool false,
  .string ⟨#[97, 108, 105, 103, 110, 45, 105, 116, 101, 109, 115]⟩, .string ⟨#[107]⟩, .string ⟨#[102, 108, 101, 120, 45, 115, 116, 97, 114, 116, 32, 102, 108, 101, 120, 45, 101, 110, 100, 32, 99, 101, 110, 116, 101, 114, 32, 45, 32, 45, 32, 45, 32, 115, 116, 114, 101, 116, 99, 104]⟩, .string ⟨#[]⟩, .bool false,
  .string ⟨#[97, 108, 105, 103, 110, 45, 115, 101, 108, 102]⟩, .string ⟨#[107, 97]⟩, .string ⟨#[102, 108, 101, 120, 45, 115, 116, 97, 114, 116, 32, 102, 108, 101, 120, 45, 101, 110, 100, 32, 99, 101, 110, 116, 101, 114, 32, 45, 32, 45, 32, 45, 32, 115, 116, 114, 101, 116, 99, 104]⟩, .string ⟨#[97, 117, 116, 111]⟩, .bool false,
  .string ⟨#[102, 108, 101, 120, 45, 103, 114, 111, 119]⟩, .string ⟨#[110]⟩, .string ⟨#[]⟩, .string ⟨#[]⟩, .bool true,
  .string ⟨#[102, 108, 101, 120, 45, 115, 104, 114, 105, 110, 107]⟩, .string ⟨#[110]⟩, .string ⟨#[]⟩, .string ⟨#[]⟩, .bool true,
  .string ⟨#[102, 108, 101, 120, 45, 98, 97, 115, 105, 115]⟩, .string ⟨#[108, 112, 97]⟩, .string ⟨#[]⟩, .string ⟨#[97, 117, 116, 111]⟩, .bool true,
  .string ⟨#[111, 114, 100, 101, 114]⟩, .string ⟨#[110]⟩, .string ⟨#[]⟩, .string ⟨#[]⟩, .bool false,
  .string ⟨#[103, 97, 112]⟩, .string ⟨#[108]⟩, .string ⟨#[]⟩, .string ⟨#[]⟩, .bool true,
  .string ⟨#[116, 97, 98, 108, 101, 45, 108, 97, 121, 111, 117, 116]⟩, .string ⟨#[107]⟩, .string ⟨#[97, 117, 116, 111, 32, 102, 105, 120, 101, 100]⟩, .string ⟨#[]⟩, .bool false,
  .string ⟨#[98, 111, 114, 100, 101, 114, 45, 115, 112, 97, 99, 105, 110, 103]⟩, .string ⟨#[108]⟩, .string ⟨#[]⟩, .string ⟨#[]⟩, .bool true,
  .string ⟨#[108, 105, 115, 116, 45, 115, 116, 121, 108, 101, 45, 116, 121, 112, 101]⟩, .string ⟨#[107]⟩, .string ⟨#[110, 111, 110, 101, 32, 100, 105, 115, 99, 32, 100, 101, 99, 105, 109, 97, 108]⟩, .string ⟨#[]⟩, .bool false,
  .string ⟨#[112, 111, 105, 110, 116, 101, 114, 45, 101, 118, 101, 110, 116, 115]⟩, .string ⟨#[107]⟩, .string ⟨#[97, 117, 116, 111, 32, 110, 111, 110, 101]⟩, .string ⟨#[]⟩, .bool false]
theorem thirds_eq : thirdsC = (pcells thirdsL).toArray := by rfl
theorem thirds_sz : thirdsC.size = Tryd.zeroCells155.size := by decide
theorem thirds_i : (Tryd.prog.info? 155).map (·.size) = some thirdsC.size := by kernel_rfl
theorem thirds_ones : thirdsC.all (·.oneCell') = true := by kernel_rfl
theorem thirds_ok : ∀ r ∈ thirdsL, r.ok = true := List.all_eq_true.1 (by decide)
set_option maxRecDepth 100000 in
set_option maxHeartbeats 40000000 in
theorem thirds_any (p : Nat) (hp : p < 19) (w : World) : Calls Tryd.prog 83 #[.int .i64 (p : Int)] w fun e w' => PRowPost e ∧ Below w.heap.size w w' := by
  have hb1 := (Below.refl w.heap.size w).alloc (Nat.le_refl _) (.cells #[.string ⟨#[]⟩, .string ⟨#[]⟩, .string ⟨#[]⟩, .string ⟨#[]⟩, .bool false] 108)
  have HB := hide (hb1.alloc hb1.size (.cells Tryd.zeroCells155 155))
  have HZ := hide ((Blk.new w 108 #[.string ⟨#[]⟩, .string ⟨#[]⟩, .string ⟨#[]⟩, .string ⟨#[]⟩, .bool false]).alloc (.cells Tryd.zeroCells155 155))
  have hT := Blk.new (w.alloc (.cells #[.string ⟨#[]⟩, .string ⟨#[]⟩, .string ⟨#[]⟩, .string ⟨#[]⟩, .bool false] 108)) 155 Tryd.zeroCells155
  rw [show (w.alloc (.cells #[.string ⟨#[]⟩, .string ⟨#[]⟩, .string ⟨#[]⟩, .string ⟨#[]⟩, .bool false] 108)).heap.size = w.heap.size + 1 by simp] at hT
  have HT := hide hT; clear hT hb1
  have hp2 : p < thirdsL.length := hp
  obtain ⟨r, hr⟩ : ∃ r, r = thirdsL[p] := ⟨_, rfl⟩
  have HOK := hide (show r.ok = true by rw [hr]; exact thirds_ok _ (List.getElem_mem _))
  have HSZ := hide thirds_sz
  have HLD := hide (show ∀ W : World, Blk W (w.heap.size + 1) 155 thirdsC → ∀ j u, (#[.string r.name, .string r.kinds, .string r.keys, .string r.auto, .bool r.above] : Array Value)[j]? = some u → W.cell? ⟨w.heap.size + 1, p * 5 + j, none⟩ = some u from fun W hW j u hu => by
    have hj : j < 5 := (Array.getElem?_eq_some_iff.1 hu).1
    rw [hW.cell (p * 5 + j), thirds_eq, List.getElem?_toArray, pcells_at _ _ _ hp2 hj, ← hr, ← hu]
    show r.cells[j]? = _
    unfold PRow.cells
    simp)
  clear hr
  go_enter Tryd.func83, Tryd.ntmps83
  go_wp2_with (first
    | (refine wpList_store_blk rfl 155 (.tmp 3) (.tmp 23) rfl (w.heap.size + 1) 155 _ thirdsC rfl rfl HT.out HSZ.out thirds_i thirds_ones ?_; intro w8 hB8 hG8; have HT8 := hide (HLD.out w8 hB8); have HZ8 := hide (blk_grown HZ.out hG8 (by omega)); have HB8 := hide (below_grown HB.out (Nat.le_refl _) hG8 (Nat.le_succ _)); clear hB8 hG8; generalize World.alloc _ _ = w2 at *)
    | (refine wpList_load_mid rfl 108 (.tmp 25) rfl (w.heap.size + 1) (p * 5) rfl #[.string r.name, .string r.kinds, .string r.keys, .string r.auto, .bool r.above] _ HT8.out prow_u rfl (prow_i _ _ _ _ _) ?_)
    | (refine wpList_store_blk rfl 108 (.tmp 2) (.tmp 26) rfl w.heap.size 108 _ _ rfl rfl HZ8.out rfl (prow_i _ _ _ _ _) (prow_ones _ _ _ _ _) ?_; intro w9 hB9 hG9; have HZ9 := hide hB9; have HB9 := hide (below_grown HB8.out (Nat.le_refl _) hG9 (Nat.le_refl _)); clear hB9 hG9)
    | fail)
  refine bodyPost_ret (results_cell_row rfl _ _ w.heap.size 108 _ (0, 0) _ rfl HZ9.out prow_u rfl (prow_i _ _ _ _ _)) rfl ?_
  exact ⟨⟨r, rfl, HOK.out⟩, HB9.out⟩
end Go.Proofs.YtbpkffoooieejaaDoor
