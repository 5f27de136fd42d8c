/- The walks of sizes.Lines and of the statement SizesOrder. -/
import Derived.BigQuiet
import Derived.Handy
import Derived.IntWalk
import Derived.Deep.MidRow
import Derived.Test.YtadlabndbomgmaaGroupsD
import Derived.Test.YtadlabndbomgmaaTame
namespace Go.Proofs.Ytadlabndbomgmaa
open Go.ChangeShapes Go.WideShapes Go.ChangeAt Go.RowKit
theorem gdCells_at : ∀ (l : List (Int × Int × Bool)) (k j : Nat), (hk : k < l.length) → j < 3 → (gdCells l)[k * 3 + j]? = (gdC l[k])[j]?
  | [], _, _, h, _ => absurd h (Nat.not_lt_zero _)
  | d :: l, 0, j, _, hj => by
    show (gdC d ++ gdCells l)[0 * 3 + j]? = _
    rw [Nat.zero_mul, Nat.zero_add, List.getElem?_append_left (by simpa [gdC] using hj)]; rfl
  | d :: l, k + 1, j, h, hj => by
    show (gdC d ++ gdCells l)[(k + 1) * 3 + j]? = _
    rw [List.getElem?_append_right (by simp [gdC]; omega), show (k + 1) * 3 + j - (gdC d).length = k * 3 + j by simp [gdC]; omega, gdCells_at l k j (by simpa using h) hj]; rfl
theorem groupsD_len {xs : List It} (h : ItsOk xs) : (groupsD xs).length ≤ 1500 := by
  have h1 := (partsTo_ok h xs.length (Nat.le_refl _)).2
  have h2 := (groups_ok xs (partsTo xs xs.length) (partsTo xs xs.length).length (Nat.le_refl _)).2.2
  have h3 := h.1
  unfold groupsD
  rw [List.length_map]
  omega
set_option maxRecDepth 100000 in
set_option maxHeartbeats 4000000 in
theorem sizesLines_any (xs : List It) (g c : Nat) (A : Option Addr) (w : World) (hA : 0 < xs.length → A = some ⟨g, 0, none⟩) (hI : ItsAt w g xs) (hg : 0 < xs.length → g < w.heap.size) (hok : ItsOk xs) :
    Calls Try.prog 62 #[.slice A xs.length c] w fun e w' => e = .returned (.tuple #[.int .i64 (cut (szTo (groupsD xs)).least), .int .i64 (cut (max (szTo (groupsD xs)).most (szTo (groupsD xs)).fin))]) ∧ Below w.heap.size w w' := by
  have HGD := hide (Groups_any xs g c A w hA hI hg hok)
  have HOK := hide (szTo_ok (groupsD xs) (groupsD_ok hok))
  have HGK := hide (groupsD_ok hok)
  have hln := groupsD_len hok
  clear hA hI hg hok
  generalize groupsD xs = D at *
  go_enter Try.func62, Try.ntmps62
  go_wp2_with fail
  refine HGD.out.mono ?_
  clear HGD
  rintro e w1 ⟨v1, rfl, own1, hb1⟩
  obtain ⟨A1, c1, rfl, _, _⟩ := own_reads own1
  have O1 := hide own1
  clear own1
  have Bi := Below.refl w1.heap.size w1
  go_wp2_with fail
  go_loopw [4, 5, 6, 7, 13] (fun l m s f i wr => ∃ k : Nat, k ≤ D.length ∧ i = .int .i64 k ∧ l = .int .i64 (szTo (D.take k)).least ∧ m = .int .i64 (szTo (D.take k)).most ∧ s = .int .i64 (szTo (D.take k)).sum ∧ f = .int .i64 (szTo (D.take k)).fin ∧ Below w1.heap.size w1 wr) (fun _ _ _ _ i _ => D.length - (intOf i).toNat)
  case atStart => exact ⟨0, Nat.zero_le _, rfl, rfl, rfl, rfl, rfl, Bi⟩
  case round =>
    clear Bi
    obtain ⟨k, hk, rfl, rfl, rfl, rfl, rfl, hbi⟩ := hrel
    by_cases hlt : k < D.length
    · obtain ⟨q, cap, hv, _, hql⟩ := O1.out.form (by omega)
      obtain rfl : A1 = some ⟨q, 0, none⟩ := by injection hv
      have hd := HGK.out _ (List.getElem_mem hlt)
      have hs := HOK.out k hk
      have HN := hide (show szTo (D.take (k + 1)) = szStep (szTo (D.take k)) D[k] from by rw [List.take_succ_eq_append_getElem hlt, szTo_snoc])
      have cc : ∀ j, j < 3 → wr.cell? ⟨q, k * 3 + j, none⟩ = (gdC D[k])[j]? := fun j hj => (hbi.cell (p := ⟨q, k * 3 + j, none⟩) hql).trans (by rw [O1.out.cellAt _ (by omega), gdCells_at D k j hlt hj])
      clear hv
      generalize D[k] = d at *
      obtain ⟨gw, gt, gm⟩ := d
      have d0 : wr.cell? ⟨q, k * 3, none⟩ = some (.int .i64 gw) := cc 0 (by omega)
      have d1 : wr.cell? ⟨q, k * 3 + 1, none⟩ = some (.int .i64 gt) := cc 1 (by omega)
      have d2 : wr.cell? ⟨q, k * 3 + 2, none⟩ = some (.bool gm) := cc 2 (by omega)
      clear cc
      simp only at hd
      unfold SzOk at hs
      have hkk : k ≤ 1500 := by omega
      have BX := hbi.alloc hbi.size (.cells #[.int .i64 gw, .int .i64 gt, .bool gm] 169)
      have HST := hide (show szStep (szTo (D.take k)) (gw, gt, gm) = if gm then ⟨max (szTo (D.take k)).least (gw - gt), max (szTo (D.take k)).most ((szTo (D.take k)).sum + gw - gt), 0, 0⟩ else ⟨max (szTo (D.take k)).least (gw - gt), (szTo (D.take k)).most, (szTo (D.take k)).sum + gw, (szTo (D.take k)).sum + gw - gt⟩ from rfl)
      generalize (szTo (D.take k)).least = sl at *
      generalize (szTo (D.take k)).most = sm at *
      generalize (szTo (D.take k)).sum = ss at *
      generalize (szTo (D.take k)).fin = sf at *
      cases hgm : gm
      · have HS2 := hide (HN.out.trans (HST.out.trans (by rw [hgm])))
        rw [hgm] at d2 BX
        clear HN HST hgm
        go_wp2_with fail
        go_roundw
        case rel => exact ⟨k + 1, by omega, by go_num, by rw [HS2.out]; rfl, by rw [HS2.out]; rfl, by rw [HS2.out]; rfl, by rw [HS2.out]; rfl, BX⟩
        case measure => simp only [intOf]; omega
      · have HS2 := hide (HN.out.trans (HST.out.trans (by rw [hgm])))
        rw [hgm] at d2 BX
        clear HN HST hgm
        go_wp2_with fail
        go_roundw
        case rel => exact ⟨k + 1, by omega, by go_num, by rw [HS2.out]; rfl, by rw [HS2.out]; rfl, by rw [HS2.out]; rfl, by rw [HS2.out]; rfl, BX⟩
        case measure => simp only [intOf]; omega
    · obtain rfl : k = D.length := by omega
      rw [List.take_length]
      have b2 := below_on hb1 hbi
      go_wp2_with (first | (go_at_call 28; refine (cut_any _ _).mono ?_; rintro e w' ⟨rfl, rfl⟩) | fail)
      go_ret2
      exact ⟨rfl, b2⟩
theorem its_own_any {w : World} {base : Nat} {t : TypeId} {A : Option Addr} {n c : Nat} {xs : List It} (h : w.ownsRow base t 11 (.slice A n c) n (itCells xs)) (hl : xs.length = n) : ∃ g, (0 < xs.length → A = some ⟨g, 0, none⟩) ∧ ItsAt w g xs ∧ (0 < xs.length → g < w.heap.size) := by
  rcases Nat.eq_zero_or_pos n with h0 | h0
  · exact ⟨0, fun h => by omega, fun k hk => by omega, fun h => by omega⟩
  · obtain ⟨g, h1, _, h2, h3⟩ := its_of_own h hl h0
    exact ⟨g, fun _ => h1, h3, fun _ => h2⟩
def atom7 : It := ⟨4, 0, ByteArray.empty, 0, 0, 0, 0, 0, 7, 0, 0⟩
theorem atom7_ok : ItsOk [atom7] := ⟨by decide, fun x hx => by
  obtain rfl : x = atom7 := by simpa using hx
  have h : (ByteArray.empty).size = 0 := rfl
  unfold ItOk atom7
  simp only [h]
  omega⟩
theorem atom7_sizes : cut (szTo (groupsD [atom7])).least = 7 ∧ cut (max (szTo (groupsD [atom7])).most (szTo (groupsD [atom7])).fin) = 7 := by
  constructor <;> kernel_rfl
set_option maxRecDepth 100000 in
set_option maxHeartbeats 4000000 in
theorem sizesOrder_any (l : List It) (A : Option Addr) (c : Nat) (w : World) (hr : ItsIn w A l) (hn : l.length ≤ c) (hc : c ≤ maxLen) (hs : ∀ k, k < l.length → (itAt l k).text.size ≤ maxLen) :
    Calls Try.prog 19 #[.slice A l.length c] w fun e w' => e = .returned (.bool true) ∧ Below w.heap.size w w' := by
  have HT := hide (tame_any l A c w hr hn hc hs)
  have HK := hide (tameF_ok l)
  have HL := hide (sizes_law (groupsD (tameF l)) (groupsD_ok (tameF_ok l)))
  clear hr hs hc
  generalize tameF l = xs at *
  go_enter Try.func19, Try.ntmps19
  go_wp2_with fail
  refine HT.out.mono ?_
  clear HT
  rintro e w1 ⟨v1, rfl, own1, hb1⟩
  obtain ⟨A1, c1, rfl, _, _⟩ := own_reads own1
  obtain ⟨g, hA, hI, hg⟩ := its_own_any own1 rfl
  have HS := hide (sizesLines_any xs g c1 A1 w1 hA hI hg HK.out)
  clear own1 hA hI hg HK
  have hl := HL.out
  generalize cut (szTo (groupsD xs)).least = lo at *
  generalize cut (max (szTo (groupsD xs)).most (szTo (groupsD xs)).fin) = hi at *
  go_wp2_with fail
  refine HS.out.mono ?_
  clear HS
  rintro e w2 ⟨rfl, hb2⟩
  have b2 := below_on hb1 hb2
  have hbx := Blk.new w2 100 #[.int .i64 4, .int .i64 0, .string ByteArray.empty, .int .i64 0, .int .i64 0, .int .i64 0, .int .i64 0, .int .i64 0, .int .i64 7, .int .i64 0, .int .i64 0]
  have ho := own_of_blk (base := 0) (n := 1) (size := 11) hbx (Nat.zero_le _) (by unfold maxLen; omega) rfl
  obtain ⟨q, hA, hI, hg⟩ := its_own_any (xs := [atom7]) ho rfl
  have HS := hide (sizesLines_any [atom7] q 1 _ _ hA hI hg atom7_ok)
  rw [atom7_sizes.1, atom7_sizes.2] at HS
  have b3 := b2.alloc b2.size (.cells #[.int .i64 4, .int .i64 0, .string ByteArray.empty, .int .i64 0, .int .i64 0, .int .i64 0, .int .i64 0, .int .i64 0, .int .i64 7, .int .i64 0, .int .i64 0] 100)
  clear hbx ho hA hI hg
  go_wp2_with fail
  refine HS.out.mono ?_
  clear HS
  rintro e w3 ⟨rfl, hb3⟩
  have b4 := below_on b3 hb3
  go_wp2_with fail
  go_ret
  exact ⟨rfl, b4⟩
end Go.Proofs.Ytadlabndbomgmaa
