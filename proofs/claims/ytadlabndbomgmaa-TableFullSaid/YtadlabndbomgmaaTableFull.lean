/- The walk of the statement TableFull: it returns true. -/
import Derived.BigQuiet
import Derived.Handy
import Derived.IntWalk
import Derived.Deep.QuietTactic
import Derived.Deep.MidRow
import Derived.Deep.RegionHeld3
import Derived.Test.YtadlabndbomgmaaTable
import Derived.Test.YtadlabndbomgmaaTabled
namespace Go.Proofs.Ytadlabndbomgmaa
open Go.ChangeShapes Go.WideShapes Go.ChangeAt Go.RowKit
@[go_sem high] theorem run_min_ints3' {P : Program} (w : World) (ts : Array TypeId) (t : TypeId) (k k2 k3 : IntKind) (x y z : Int) :
    (Builtin.min_ ts t #[.int k x, .int k2 y, .int k3 z]).run P w = .ok (.int k (min x (min y z))) w := by
  rw [show min x (min y z) = min (min x y) z by omega]
  have e : ∀ a b : Int, (if b < a then b else a) = min a b := fun a b => by
    rw [Int.min_def]
    split <;> split <;> omega
  simp [Builtin.min_, Builtin.min2, e]
/-- One element is appended to a row of the call's own, and where the row lies behind that. -/
theorem wpList_app1b {P : Program} {w : World} {ops : Array Oper} {rest : List Oper} {o : Oper} {a : Act} {Q : Exit → Act → World → Prop} (hgd : o.guard = none) (s x : Operand) (t : TypeId)
    (ho : o.op = .call { callee := .builtin .append, args := #[s, x], argTypes := #[t, t] }) (base : Nat) (e : TypeId) (z : Value) (size bytes : Nat) (ht : P.underlying t = some (.slice e))
    (hinfo : (P.info? e).map (fun i => (i.zero, i.size, i.bytes)) = some (some z, size, bytes)) (hzs : z.cells.size = size) (hsz : 0 < size)
    (v : Value) (n : Nat) (xs : List Value) (hs : a.eval s = v) (hown : w.ownsRow base e size v n xs) (g c : Nat) (cs : Array Value) (hb : Blk w g e cs) (hcs : cs.size = size) (hx : a.eval x = .slice (some ⟨g, 0, none⟩) 1 c)
    (h1 : cs.toList.all (·.oneCell') = true) (hn : n ≤ 1000000) (hby : bytes ≤ 1000) (hbase : base ≤ w.heap.size)
    (h : ∀ v' w', w'.ownsRow base e size v' (n + 1) (xs ++ cs.toList) → w.grownBy w' v.ownBlock → (v'.ownBlock = v.ownBlock ∨ v'.ownBlock = some w.heap.size) → wpList P ops Q rest (a.put o.dst v') w') : wpList P ops Q (o :: rest) a w := by
  obtain ⟨i, hi, hz, hsize, hbytes⟩ := info_parts hinfo
  refine wpList_append_any w hgd s x t ho base e i z size bytes ht hi hz hsize hbytes hzs hsz v n xs hs hown (g + 1) (some ⟨g, 0, none⟩) 1 c cs.toList hx (reads_blk hb size hcs) (List.all_eq_true.1 h1) (by simp only [maxLen]; omega) ?_ hbase fun v' w' h2 h3 h4 => h v' w' h2 h3 h4
  have := Nat.mul_le_mul (show n + 1 ≤ 1000001 by omega) hby
  omega
/-- Two rows that lie apart. -/
def Apart (a b : Value) : Prop := ∀ k, a.ownBlock = some k → b.ownBlock ≠ some k
theorem Apart.l {a b : Value} (h : Apart a b) : b.ownBlock = none ∨ b.ownBlock ≠ a.ownBlock := by
  cases hb : b.ownBlock with
  | none => exact .inl rfl
  | some k => exact .inr fun e => h k e.symm hb
theorem Apart.r {a b : Value} (h : Apart a b) : a.ownBlock = none ∨ a.ownBlock ≠ b.ownBlock := by
  cases ha : a.ownBlock with
  | none => exact .inl rfl
  | some k => exact .inr fun e => h k ha e.symm
theorem Apart.grow_l {a a' b : Value} {s : Nat} (h : Apart a b) (hg : a'.ownBlock = a.ownBlock ∨ a'.ownBlock = some s) (hb : ∀ k, b.ownBlock = some k → k < s) : Apart a' b := by
  intro k hk e
  rcases hg with hg | hg
  · rw [hg] at hk; exact h k hk e
  · rw [hg] at hk
    injection hk with hk
    have := hb k e
    omega
theorem Apart.grow_r {a b b' : Value} {s : Nat} (h : Apart a b) (hg : b'.ownBlock = b.ownBlock ∨ b'.ownBlock = some s) (ha : ∀ k, a.ownBlock = some k → k < s) : Apart a b' := by
  intro k hk e
  rcases hg with hg | hg
  · rw [hg] at e; exact h k hk e
  · rw [hg] at e
    injection e with e
    have := ha k hk
    omega
theorem wu16t (n : Int) : 0 ≤ IntKind.u16.wrap n ∧ IntKind.u16.wrap n ≤ 65535 := by rw [IntKind.wrap_u16]; omega
def lowU (lt : List Int) (k : Nat) : List Int := (List.range k).map fun i => IntKind.u16.wrap (at0 lt i)
def highU (lt mt : List Int) (k : Nat) : List Int := (List.range k).map fun i => IntKind.u16.wrap (at0 lt i) + IntKind.u16.wrap (at0 mt i)
theorem lowU_len (lt : List Int) (k : Nat) : (lowU lt k).length = k := by simp [lowU]
theorem highU_len (lt mt : List Int) (k : Nat) : (highU lt mt k).length = k := by simp [highU]
theorem lowU_snoc (lt : List Int) (k : Nat) : lowU lt (k + 1) = lowU lt k ++ [IntKind.u16.wrap (at0 lt k)] := by unfold lowU; rw [List.range_succ, List.map_append]; rfl
theorem highU_snoc (lt mt : List Int) (k : Nat) : highU lt mt (k + 1) = highU lt mt k ++ [IntKind.u16.wrap (at0 lt k) + IntKind.u16.wrap (at0 mt k)] := by unfold highU; rw [List.range_succ, List.map_append]; rfl
theorem lowU_at (lt : List Int) (n k : Nat) (h : k < n) : at0 (lowU lt n) k = IntKind.u16.wrap (at0 lt k) := by
  rw [at0_of _ k (by simpa [lowU] using h)]; simp [lowU]
theorem highU_at (lt mt : List Int) (n k : Nat) (h : k < n) : at0 (highU lt mt n) k = IntKind.u16.wrap (at0 lt k) + IntKind.u16.wrap (at0 mt k) := by
  rw [at0_of _ k (by simpa [highU] using h)]; simp [highU]
theorem ext_tab {l m : List Int} (hl : l.length = m.length) (h : ∀ i, i < l.length → at0 l i = at0 m i) : l = m :=
  List.ext_getElem hl fun i h1 h2 => by rw [← at0_of l i h1, ← at0_of m i h2]; exact h i h1
theorem lowT_at (l : List Int) (j : Nat) (h : j < l.length) : at0 (lowT l) j = max 0 (cut (at0 l j)) := by
  rw [at0_of _ j (by simpa [lowT] using h)]; simp [lowT]
theorem moreT_at (l m : List Int) (j : Nat) (h : j < l.length) : at0 (moreT l m) j = max 0 (cut (at0 m j) - max 0 (cut (at0 l j))) := by
  rw [at0_of _ j (by simpa [moreT] using h)]; simp [moreT]
theorem lowU_bd (lt : List Int) (k j : Nat) (h : j < k) : 0 ≤ at0 (lowU lt k) j ∧ at0 (lowU lt k) j ≤ 65535 := by rw [lowU_at _ _ _ h]; exact wu16t _
theorem tab_low (lt : List Int) (k : Nat) : lowT (lowU lt k) = lowU lt k := by
  refine ext_tab (by rw [lowT_len]) fun i hi => ?_
  rw [lowT_len, lowU_len] at hi
  have h := lowU_bd lt k i hi
  rw [lowT_at _ _ (by rw [lowU_len]; exact hi), cut_of (by omega) (by omega)]
  omega
theorem tab_more (lt mt : List Int) (k j : Nat) (h : j < k) : at0 (moreT (lowU lt k) (highU lt mt k)) j = IntKind.u16.wrap (at0 mt j) := by
  have h1 := wu16t (at0 lt j)
  have h2 := wu16t (at0 mt j)
  rw [moreT_at _ _ _ (by rw [lowU_len]; exact h), lowU_at _ _ _ h, highU_at _ _ _ _ h, cut_of (by omega) (by omega), cut_of (by omega) (by omega)]
  omega
theorem tab_high (lt mt : List Int) (k : Nat) : addL (lowU lt k) (moreT (lowU lt k) (highU lt mt k)) = highU lt mt k := by
  refine ext_tab (by rw [addL_length, lowU_len, highU_len]) fun i hi => ?_
  rw [addL_length, lowU_len] at hi
  rw [addL_at _ _ _ (by rw [lowU_len]; exact hi), tab_more _ _ _ _ hi, lowU_at _ _ _ hi, highU_at _ _ _ _ hi]
theorem mul_spc {S : Int} {k : Nat} (hS : 0 ≤ S ∧ S ≤ 255) (hk : k ≤ 20) : 0 ≤ S * ((k : Int) + 1) ∧ S * ((k : Int) + 1) ≤ 5355 :=
  ⟨Int.mul_nonneg hS.1 (by omega), Int.le_trans (Int.mul_le_mul hS.2 (show (k : Int) + 1 ≤ 21 by omega) (by omega) (by omega)) (by omega)⟩
theorem tab_law (R S : Int) (lt mt : List Int) (k : Nat) (fixed : Bool) (hk : k ≤ 20) (hR : -8388608 ≤ R ∧ R ≤ 8388608) (hS : 0 ≤ S ∧ S ≤ 255) :
    (tableF (freeT R S k) (lowT (lowU lt k)) (moreT (lowU lt k) (highU lt mt k)) fixed).length = k ∧
    (∀ j, j < k → at0 (lowU lt k) j ≤ at0 (tableF (freeT R S k) (lowT (lowU lt k)) (moreT (lowU lt k) (highU lt mt k)) fixed) j ∧ (fixed = false → at0 (tableF (freeT R S k) (lowT (lowU lt k)) (moreT (lowU lt k) (highU lt mt k)) fixed) j ≤ at0 (highU lt mt k) j)) ∧
    (fixed = false → (lowU lt k).sum ≤ R - S * ((k : Int) + 1) → R - S * ((k : Int) + 1) ≤ (highU lt mt k).sum → (tableF (freeT R S k) (lowT (lowU lt k)) (moreT (lowU lt k) (highU lt mt k)) fixed).sum = R - S * ((k : Int) + 1)) := by
  have hm := mul_spc hS hk
  have hf : 0 ≤ freeT R S k ∧ freeT R S k ≤ 16777216 := by
    have h1 := cut_hi R
    have h2 := cut_hi S
    have h3 : 0 ≤ max 0 (cut S) * ((k : Int) + 1) := Int.mul_nonneg (by omega) (by omega)
    unfold freeT; omega
  have hfe : 0 ≤ R - S * ((k : Int) + 1) → freeT R S k = R - S * ((k : Int) + 1) := fun h => by
    unfold freeT
    rw [cut_of (n := R) (by omega) (by omega), cut_of (n := S) (by omega) (by omega), show max 0 S = S by omega]
    omega
  have hml : (moreT (lowU lt k) (highU lt mt k)).length = (lowU lt k).length := by rw [moreT_len]
  have hlow0 : 0 ≤ (lowU lt k).sum := by
    rw [sum_fsum]
    exact fsum_nonneg fun i hi => (lowU_bd lt k i (by rw [lowU_len] at hi; exact hi)).1
  have hsum : (highU lt mt k).sum = (lowU lt k).sum + (moreT (lowU lt k) (highU lt mt k)).sum := by have h9 := addL_sum (lowU lt k) (moreT (lowU lt k) (highU lt mt k)) hml; rw [tab_high] at h9; exact h9
  rw [tab_low]
  obtain ⟨l1, l2, l3⟩ := table_law (freeT R S k) (lowU lt k) (moreT (lowU lt k) (highU lt mt k)) fixed hml (by rw [lowU_len]; exact hk) (fun j hj => lowU_bd lt k j (by rw [lowU_len] at hj; exact hj))
    (fun j hj => by rw [lowU_len] at hj; rw [tab_more _ _ _ _ hj]; exact wu16t _) hf.1 hf.2
  rw [lowU_len] at l1 l2
  refine ⟨l1, fun j hj => ⟨(l2 j hj).1, fun e => ?_⟩, fun e h1 h2 => ?_⟩
  · have h3 := (l2 j hj).2 e
    rw [tab_more _ _ _ _ hj, lowU_at _ _ _ hj] at h3
    rw [highU_at _ _ _ _ hj]; exact h3
  · have h4 := hfe (by omega)
    rw [l3 e (by omega) (by omega), h4]
theorem psum_at {l : List Int} {k : Nat} (hl : l.length = k) (hk : k ≤ 20) (h : ∀ j, j < k → 0 ≤ at0 l j ∧ at0 l j ≤ 200000) : ∀ j, j ≤ k → -1000000000000000000 ≤ psum l j ∧ psum l j ≤ 1000000000000000000 := fun j hj => by
  rw [psum_fsum l j (by omega)]
  have := fsum_bd (f := at0 l) (lo := 0) (hi := 200000) (k := j) fun i hi => h i (by omega)
  omega
theorem w32_bdt (n : Int) : -2147483648 ≤ wrap32 n ∧ wrap32 n ≤ 2147483647 := by unfold wrap32; omega
theorem tdiv256 {n : Int} (h : -2147483648 ≤ n ∧ n ≤ 2147483647) : -8388608 ≤ n.tdiv 256 ∧ n.tdiv 256 ≤ 8388608 := by
  rcases Int.le_total 0 n with h0 | h0
  · rw [Int.tdiv_eq_ediv_of_nonneg h0]; omega
  · have e := Int.neg_tdiv n 256
    rw [Int.tdiv_eq_ediv_of_nonneg (by omega)] at e
    omega
/-- What stands while the second row grows. -/
def TabP (w : World) (g cap k : Nat) (v2 : Value) (ad : Addr) (y z : Int) (L H : List Value) (W : World) : Prop :=
  (W.ownsRow w.heap.size 3 1 (.slice (some ⟨g, 0, none⟩) (k + 1) cap) (k + 1) L ∧ L[k]? = some (.int .i64 z)) ∧ W.ownsRow w.heap.size 3 1 v2 k H ∧ Below w.heap.size w W ∧ ad.block < w.heap.size ∧ w.cell? ad = some (.int .i64 y)
section
variable {w W W' : World} {g cap k : Nat} {v2 : Value} {ad : Addr} {y z : Int} {L H : List Value}
theorem TabP.ps (h : TabP w g cap k v2 ad y z L H W) : W.cell? ⟨g, k, none⟩ = some (.int .i64 z) ∧ W.cell? ad = some (.int .i64 y) :=
  ⟨(h.1.1.cellAt k (by omega)).trans h.1.2, (h.2.2.1.cell (p := ad) h.2.2.2.1).trans h.2.2.2.2⟩
theorem TabP.alloc (h : TabP w g cap k v2 ad y z L H W) (o : Obj) : TabP w g cap k v2 ad y z L H (W.alloc o) := ⟨⟨h.1.1.alloc o, h.1.2⟩, h.2.1.alloc o, h.2.2.1.alloc h.2.2.1.size o, h.2.2.2⟩
theorem TabP.drew (h : TabP w g cap k v2 ad y z L H W) : TabP w g cap k v2 ad y z L H W.drew := ⟨⟨h.1.1.drew, h.1.2⟩, h.2.1.drew, h.2.2.1.drew, h.2.2.2⟩
theorem TabP.grown (h : TabP w g cap k v2 ad y z L H W) (ha : Apart (.slice (some ⟨g, 0, none⟩) (k + 1) cap) v2) (hg : W.grownBy W' v2.ownBlock) : W'.ownsRow w.heap.size 3 1 (.slice (some ⟨g, 0, none⟩) (k + 1) cap) (k + 1) L ∧ Below w.heap.size w W' :=
  ⟨h.1.1.kept hg ha.r, own_below h.2.1 h.2.2.1 (Nat.le_refl _) (Nat.le_refl _) hg⟩
end
set_option maxRecDepth 100000 in
set_option maxHeartbeats 8000000 in
theorem tableFull_any (room spacing : Int) (lt mt : List Int) (fixed : Bool) (A A2 : Option Addr) (n1 c1 n2 c2 : Nat) (w : World) (hr : Reads w w.heap.size 1 A n1 (lt.map (Value.int .i64))) (hr2 : Reads w w.heap.size 1 A2 n2 (mt.map (Value.int .i64))) (hn1 : n1 ≤ maxLen) (hn2 : n2 ≤ maxLen) :
    Calls Try.prog 20 #[.int .i64 room, .int .i64 spacing, .slice A n1 c1, .slice A2 n2 c2, .bool fixed] w fun e w' => e = .returned (.bool true) ∧ Below w.heap.size w w' := by
  unfold maxLen at hn1 hn2
  have HR := hide hr
  have HR2 := hide hr2
  clear hr hr2
  obtain ⟨i0, hi0, hz0, hz1, hz2⟩ := info_parts int_info
  have HI := hide (⟨hi0, hz0, hz1, hz2⟩ : Try.prog.info? 3 = some i0 ∧ i0.zero = some (.int .i64 0) ∧ i0.size = 1 ∧ i0.bytes = 8)
  clear hi0 hz0 hz1 hz2
  go_enter Try.func20, Try.ntmps20
  go_wp2_with fail
  have hm1 : min n1 (min n2 20) ≤ n1 ∧ min n1 (min n2 20) ≤ n2 ∧ min n1 (min n2 20) ≤ 20 := by omega
  have hme : min (n1 : Int) (min (n2 : Int) 20) = ((min n1 (min n2 20) : Nat) : Int) := by omega
  simp only [hme]
  clear hme
  generalize min n1 (min n2 20) = m at *
  go_loopw [11, 12, 23] (fun v v2 i wr => ∃ k : Nat, k ≤ m ∧ i = .int .i64 k ∧ wr.ownsRow w.heap.size 3 1 v k ((lowU lt k).map (Value.int .i64)) ∧ wr.ownsRow w.heap.size 3 1 v2 k ((highU lt mt k).map (Value.int .i64)) ∧ Apart v v2 ∧ Below w.heap.size w wr) (fun _ _ i _ => m - (intOf i).toNat)
  case atStart => exact ⟨0, Nat.zero_le _, rfl, own_none _ _ _ _, own_none _ _ _ _, (fun k h => by simp [Value.ownBlock] at h), Below.refl _ _⟩
  case round =>
    obtain ⟨k, hk, rfl, hown, hown2, hap, hbel⟩ := hrel
    have hszr := hbel.size
    obtain ⟨v, hv⟩ : ∃ v, v = u11 := ⟨_, rfl⟩
    obtain ⟨v2, hv2⟩ : ∃ v2, v2 = u12 := ⟨_, rfl⟩
    rw [← hv] at hown hap ⊢
    rw [← hv2] at hown2 hap ⊢
    clear hv hv2
    by_cases hlt : k < m
    · obtain ⟨ad, rfl, _, c1'⟩ := (HR.out.below hbel).int_at (show k < n1 by omega)
      obtain ⟨ad2, rfl, hlt2, c2w⟩ := HR2.out.int_at (show k < n2 by omega)
      have hk1 : (0 : Int) ≤ (k : Int) := by omega
      have hk2 : (k : Int) < (n1 : Int) := by omega
      have hk3 : (k : Int) < (n2 : Int) := by omega
      have hk4 : (k : Int) < ((k : Int) + 1) := by omega
      have MS := hide (show (lowU lt (k + 1)).map (Value.int .i64) = (lowU lt k).map (Value.int .i64) ++ (#[.int .i64 (IntKind.u16.wrap (at0 lt k))] : Array Value).toList from by rw [lowU_snoc, List.map_append]; rfl)
      have MH := hide (show (highU lt mt (k + 1)).map (Value.int .i64) = (highU lt mt k).map (Value.int .i64) ++ [.int .i64 (IntKind.u16.wrap (at0 lt k) + IntKind.u16.wrap (at0 mt k))] from by rw [highU_snoc, List.map_append]; rfl)
      have MLK := hide (show ((lowU lt (k + 1)).map (Value.int .i64))[k]? = some (.int .i64 (IntKind.u16.wrap (at0 lt k))) from by rw [lowU_snoc, List.map_append, List.getElem?_append_right (by simp [lowU])]; simp [lowU])
      generalize at0 lt k = x at *
      generalize at0 mt k = y at *
      have hbx := wu16t x
      have hby := wu16t y
      have C2 := hide c2w
      have HV := hide (hown.alloc (.cells #[.int .i64 (IntKind.u16.wrap x)] 3))
      have HV2 := hide (hown2.alloc (.cells #[.int .i64 (IntKind.u16.wrap x)] 3))
      have HK := hide (Blk.new wr 3 #[.int .i64 (IntKind.u16.wrap x)])
      have HBL := hide (hbel.alloc hszr (.cells #[.int .i64 (IntKind.u16.wrap x)] 3))
      have HKN := hide (show k ≤ 1000000 by omega)
      have HAP := hide hap
      clear hown hown2 c2w hap
      go_wp2_with (first | (at_builtin; refine wpList_app1b rfl (.tmp 26) (.tmp 33) _ rfl w.heap.size 3 _ 1 8 Try.underlying22 int_info rfl (Nat.succ_pos _) _ k _ rfl HV.out wr.heap.size 1 _ HK.out rfl rfl rfl HKN.out (Nat.le_of_ble_eq_true rfl) HBL.out.size ?_; intro v9 w9 hown9 hg9 hat9; have hb9 := own_below HV.out HBL.out (Nat.le_refl _) (Nat.le_refl _) hg9; have H9 := hide (HV2.out.kept hg9 HAP.out.l); have A9 := hide (HAP.out.grow_l hat9 (own_lt HV2.out)); obtain ⟨g9, cap9, rfl, _, hgl9⟩ := hown9.form (Nat.succ_pos _); have O9 := hide hown9; clear hown9 hg9 hat9) | fail)
      have HP0 : TabP w g9 cap9 k v2 (ad2.add k) y (IntKind.u16.wrap x) ((lowU lt (k + 1)).map (Value.int .i64)) ((highU lt mt k).map (Value.int .i64)) w9 := ⟨⟨by rw [MS.out]; exact O9.out, MLK.out⟩, H9.out, hb9, by rw [block_of_add]; exact hlt2, C2.out⟩
      have HP := HP0.drew
      have ps := HP.ps
      have hw : IntKind.i64.wrap (IntKind.u16.wrap x + IntKind.u16.wrap y) = IntKind.u16.wrap x + IntKind.u16.wrap y := IntWalk.i64_in _ (by omega)
      have hw2 : IntKind.i64.wrap (IntKind.u16.wrap y) = IntKind.u16.wrap y := IntWalk.i64_in _ (by omega)
      have HMX := hide (show k + 1 ≤ maxLen by simp only [maxLen]; omega)
      have HMY := hide (show (k + 1) * 8 ≤ 140737488355328 by omega)
      clear HP0 O9 H9 hb9 HV HV2 HK HBL c1'
      go_region_held3 (fun W => W.cell? ⟨g9, k, none⟩ = some (.int .i64 (IntKind.u16.wrap x)) ∧ W.cell? (ad2.add k) = some (.int .i64 y)) (first | exact ps | exact (HP.alloc _).ps)
        (first
          | (refine step_append_any _ rfl (.tmp 35) (.tmp 47) _ rfl w.heap.size 3 i0 _ 1 8 Try.underlying22 HI.out.1 HI.out.2.1 HI.out.2.2.1 HI.out.2.2.2 rfl (Nat.succ_pos _) _ k _ (by rfl) (HP.alloc _).2.1 (w9.drew.heap.size + 1) _ 1 1 _ (by rfl) (Reads.lit w9.drew _ _ 1 1 rfl) (by exact List.all_eq_true.1 rfl) HMX.out HMY.out (HP.alloc _).2.2.1.size ?_; intro v8 w8 hown8 hg8 hat8; have hgr := (HP.alloc _).grown A9.out hg8; have ps := (show w8.cell? ⟨g9, k, none⟩ = some (.int .i64 (IntKind.u16.wrap x)) ∧ w8.cell? (ad2.add k) = some (.int .i64 y) from ⟨(hgr.1.cellAt k (by omega)).trans MLK.out, (hgr.2.cell (p := ad2.add k) HP.2.2.2.1).trans C2.out⟩)))
      all_goals
        have A8 := hide (A9.out.grow_r hat8 (own_lt (HP.alloc (.cells #[.int .i64 (IntKind.u16.wrap x + IntKind.u16.wrap y)] 3)).1.1))
        have O8 := hide hown8
        clear ps hat8 hg8 hw hw2 hown8
        go_wp2_with fail
        go_roundw
        case rel => exact ⟨k + 1, by omega, by go_num, hgr.1, by rw [MH.out]; exact O8.out, A8.out, hgr.2⟩
        case measure => simp [intOf]; omega
    · obtain rfl : k = m := by omega
      obtain ⟨X, cx, rfl, _, rx⟩ := own_reads hown
      obtain ⟨Y, cy, rfl, _, ry⟩ := own_reads hown2
      have O1 := hide hown
      have O2 := hide hown2
      have RX := hide rx
      have RY := hide ry
      clear hown hown2 hap rx ry
      have hwb := w32_bdt room
      have hR := tdiv256 hwb
      have hS : 0 ≤ spacing % 256 ∧ spacing % 256 ≤ 255 := by omega
      have hk20 := hm1.2.2
      go_wp2_with fail
      generalize (wrap32 room).tdiv 256 = R at *
      generalize wrap32 room = ro at *
      generalize spacing % 256 = S at *
      refine (Widths_any R S (lowU lt k) (highU lt mt k) fixed k cx cy wr.heap.size X Y wr RX.out RY.out (Nat.le_refl _) (by omega)).mono ?_
      rintro e w1 ⟨v, rfl, own3, hb1⟩
      have TL := hide (tab_law R S lt mt k fixed hk20 hR hS)
      generalize tableF (freeT R S k) (lowT (lowU lt k)) (moreT (lowU lt k) (highU lt mt k)) fixed = out at *
      obtain ⟨Z, cz, rfl, _, _⟩ := own_reads own3
      have L1 := below_then hbel (Nat.le_refl _) hb1
      have U1 := hide (own_keep O1.out hb1 (own_lt O1.out))
      have U2 := hide (own_keep O2.out hb1 (own_lt O2.out))
      have U3 := hide own3
      clear own3 hb1 O1 O2 RX RY hbel
      go_wp2_with fail
      refine (tabled_any w1).mono ?_
      rintro e w2 ⟨rfl, hb2⟩
      have L2 := below_then L1 (Nat.le_refl _) hb2
      have R1 := hide (Reads.of_own (own_keep U1.out hb2 (own_lt U1.out)))
      have R2 := hide (Reads.of_own (own_keep U2.out hb2 (own_lt U2.out)))
      have R3 := hide (Reads.of_own (own_keep U3.out hb2 (own_lt U3.out)))
      have BL := hide (psum_at (lowU_len lt k) hk20 (fun j hj => by have := lowU_bd lt k j hj; omega))
      have BH := hide (psum_at (highU_len lt mt k) hk20 (fun j hj => by rw [highU_at _ _ _ _ hj]; have := wu16t (at0 lt j); have := wu16t (at0 mt j); omega))
      have hmul := mul_spc hS hk20
      clear U1 U2 U3 hb2 L1
      go_wp2_with fail
      go_loop [74] (fun i => ∃ j : Nat, j ≤ k ∧ i = .int .i64 j) (fun i => k - (intOf i).toNat)
      case atStart => exact ⟨0, Nat.zero_le _, rfl⟩
      case round =>
        obtain ⟨j, hj, rfl⟩ := hrel
        by_cases hjk : j < k
        · obtain ⟨ad, rfl, _, e1⟩ := R1.out.int_at hjk
          obtain ⟨ad2, rfl, _, e2⟩ := R2.out.int_at hjk
          obtain ⟨ad3, rfl, _, e3⟩ := R3.out.int_at hjk
          have tj := TL.out.2.1 j hjk
          have hj1 : (0 : Int) ≤ (j : Int) := by omega
          have hj2 : (j : Int) < (k : Int) := by omega
          generalize at0 (lowU lt k) j = lo at *
          generalize at0 (highU lt mt k) j = hi at *
          generalize at0 out j = no at *
          have z1 : decide (no < lo) = false := decide_eq_false (by omega)
          cases fixed
          · have z2 : decide (hi < no) = false := decide_eq_false (by have := tj.2 rfl; omega)
            clear tj
            go_wp2
            go_round
            case rel => exact ⟨j + 1, by omega, by go_num⟩
            case measure => simp [intOf]; omega
          · clear tj
            go_wp2
            go_round
            case rel => exact ⟨j + 1, by omega, by go_num⟩
            case measure => simp [intOf]; omega
        · obtain rfl : j = k := by omega
          cases fixed
          · have HO := hide (psum_at TL.out.1 hk20 (fun q hq => by have h1 := TL.out.2.1 q hq; have h2 := h1.2 rfl; have h3 := lowU_bd lt j q hq; rw [highU_at _ _ _ _ hq] at h2; have := wu16t (at0 lt q); have := wu16t (at0 mt q); omega))
            have T3 := hide (TL.out.2.2 rfl)
            clear TL
            have C1 := hide (sum_any X j cx (lowU lt j) _ w2 R1.out (by omega) BL.out)
            have C2 := hide (sum_any Y j cy (highU lt mt j) _ w2 R2.out (by omega) BH.out)
            have C3 := hide (sum_any Z j cz out _ w2 R3.out (by omega) HO.out)
            clear R1 R2 R3 BL BH HO
            generalize (lowU lt j).sum = sl at *
            generalize (highU lt mt j).sum = sh at *
            generalize out.sum = so at *
            have ht := T3.out
            clear T3
            by_cases h1 : R - S * ((j : Int) + 1) < sl
            · have z1 : decide (R - S * ((j : Int) + 1) < sl) = true := decide_eq_true h1
              clear h1 ht
              go_wp2_with fail
              refine C1.out.mono ?_
              rintro e w' ⟨rfl, rfl⟩
              go_wp2_with fail
              go_ret
              exact ⟨rfl, L2⟩
            · have z1 : decide (R - S * ((j : Int) + 1) < sl) = false := decide_eq_false h1
              by_cases h2 : sh < R - S * ((j : Int) + 1)
              · have z2 : decide (sh < R - S * ((j : Int) + 1)) = true := decide_eq_true h2
                clear h1 h2 ht
                go_wp2_with fail
                refine C1.out.mono ?_
                rintro e w' ⟨rfl, rfl⟩
                go_wp2_with fail
                refine C2.out.mono ?_
                rintro e w' ⟨rfl, rfl⟩
                go_wp2_with fail
                go_ret
                exact ⟨rfl, L2⟩
              · have z2 : decide (sh < R - S * ((j : Int) + 1)) = false := decide_eq_false h2
                have ht2 := ht (by omega) (by omega)
                subst ht2
                have z3 : (R - S * ((j : Int) + 1) == R - S * ((j : Int) + 1)) = true := by simp
                clear h1 h2 ht
                go_wp2_with fail
                refine C1.out.mono ?_
                rintro e w' ⟨rfl, rfl⟩
                go_wp2_with fail
                refine C2.out.mono ?_
                rintro e w' ⟨rfl, rfl⟩
                go_wp2_with fail
                refine C3.out.mono ?_
                rintro e w' ⟨rfl, rfl⟩
                go_wp2_with fail
                go_ret
                exact ⟨rfl, L2⟩
          · clear TL
            go_wp2
            go_ret
            exact ⟨rfl, L2⟩
end Go.Proofs.Ytadlabndbomgmaa
