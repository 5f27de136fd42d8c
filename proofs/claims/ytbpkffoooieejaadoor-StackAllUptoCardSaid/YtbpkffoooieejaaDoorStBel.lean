/- The walk of order.belonging. -/
import Derived.BigQuiet
import Derived.Handy
import Derived.IntWalk
import Derived.RegionTactic
import Derived.Deep.MidRow
import Derived.Deep.CutBlock
import Derived.Test.YtbpkffoooieejaaDoorStCheck
import Derived.Test.YtbpkffoooieejaaDoorSteps3
import Derived.Test.YtbpkffoooieejaaDoorStBelPlain
namespace Go.Proofs.YtbpkffoooieejaaDoor
open Go.ChangeShapes Go.WideShapes Go.ChangeAt Go.RowKit
def natCells (l : List Nat) : List Value := l.map fun (k : Nat) => .int .i64 (k : Int)
theorem natCells_len (l : List Nat) : (natCells l).length = l.length := by simp [natCells]
theorem natCells_at (l : List Nat) (j : Nat) : (natCells l)[j]? = (l[j]?).map fun (k : Nat) => .int .i64 (k : Int) := by simp [natCells]
theorem natCells_app (l m : List Nat) : natCells (l ++ m) = natCells l ++ natCells m := by simp [natCells]
/-- What belonging and the comparison read: the marks and the kids of n frags, in blocks below B. -/
structure KidR (w : World) (B bo n : Nat) (kids : Nat → List Nat) (own : Nat → Bool) (bm bk cm ck : Nat) : Prop where
  o : bo < B
  m : bm < B
  k : bk < B
  c0 : w.cell? ⟨bo, 0, none⟩ = some (.slice (some ⟨bm, 0, none⟩) n cm)
  c1 : w.cell? ⟨bo, 1, none⟩ = some (.slice (some ⟨bk, 0, none⟩) n ck)
  mks : ∀ f, f < n → ∃ i z p, w.cell? ⟨bm, f * 3, none⟩ = some (.int .i64 i) ∧ w.cell? ⟨bm, f * 3 + 1, none⟩ = some (.int .i64 z) ∧ w.cell? ⟨bm, f * 3 + 2, none⟩ = some (.int .i64 p) ∧ (i = 0 ↔ own f = false)
  kd : ∀ f, f < n → ∃ A c, w.cell? ⟨bk, f, none⟩ = some (.slice A (kids f).length c) ∧ Reads w B 1 A (kids f).length (natCells (kids f))
theorem KidR.below {w w' : World} {B bo n bm bk cm ck : Nat} {kids : Nat → List Nat} {own : Nat → Bool} (h : KidR w B bo n kids own bm bk cm ck) (hb : Below B w w') : KidR w' B bo n kids own bm bk cm ck where
  o := h.o
  m := h.m
  k := h.k
  c0 := (hb.cell (p := ⟨bo, 0, none⟩) h.o).trans h.c0
  c1 := (hb.cell (p := ⟨bo, 1, none⟩) h.o).trans h.c1
  mks := fun f hf => by
    obtain ⟨i, z, p, h1, h2, h3, h4⟩ := h.mks f hf
    exact ⟨i, z, p, (hb.cell (p := ⟨bm, f * 3, none⟩) h.m).trans h1, (hb.cell (p := ⟨bm, f * 3 + 1, none⟩) h.m).trans h2, (hb.cell (p := ⟨bm, f * 3 + 2, none⟩) h.m).trans h3, h4⟩
  kd := fun f hf => by
    obtain ⟨A, c, h1, h2, h3⟩ := h.kd f hf
    refine ⟨A, c, (hb.cell (p := ⟨bk, f, none⟩) h.k).trans h1, h2, fun h0 => ?_⟩
    obtain ⟨ad, e1, e2, e3⟩ := h3 h0
    refine ⟨ad, e1, e2, fun j u hu => ?_⟩
    rw [← e3 j u hu]
    exact hb.cell (p := ad.add j) (by unfold Addr.add; split <;> exact e2)
theorem natK_form {w : World} {B : Nat} {A : Option Addr} {l : List Nat} (h : Reads w B 1 A l.length (natCells l)) (h0 : 0 < l.length) : ∃ g off, A = some ⟨g, off, none⟩ ∧ g < B ∧ ∀ (j k : Nat), l[j]? = some k → w.cell? ⟨g, off + j, none⟩ = some (.int .i64 (k : Int)) := by
  have hc : natCells l = (l.map Int.ofNat).map (Value.int .i64) := by simp [natCells]
  have h2 : Reads w B 1 A (l.map Int.ofNat).length ((l.map Int.ofNat).map (Value.int .i64)) := by rw [List.length_map, ← hc]; exact h
  obtain ⟨g, off, h3, h4, h5⟩ := kid_form h2 (by simpa using h0)
  refine ⟨g, off, h3, h4, fun j k hj => ?_⟩
  have hjl := (List.getElem?_eq_some_iff.1 hj).1
  rw [h5 j (by simpa using hjl)]
  simp [List.getD, hj]
theorem KidR.mono {w : World} {B B' bo n bm bk cm ck : Nat} {kids : Nat → List Nat} {own : Nat → Bool} (h : KidR w B bo n kids own bm bk cm ck) (hB : B ≤ B') : KidR w B' bo n kids own bm bk cm ck where
  o := Nat.lt_of_lt_of_le h.o hB
  m := Nat.lt_of_lt_of_le h.m hB
  k := Nat.lt_of_lt_of_le h.k hB
  c0 := h.c0
  c1 := h.c1
  mks := h.mks
  kd := fun f hf => by
    obtain ⟨A, c, h1, h2, h3⟩ := h.kd f hf
    refine ⟨A, c, h1, h2, fun h0 => ?_⟩
    obtain ⟨ad, e1, e2, e3⟩ := h3 h0
    exact ⟨ad, e1, Nat.lt_of_lt_of_le e2 hB, e3⟩
theorem int_inf : (Tryd.prog.info? 3).map (fun i => (i.zero, i.size, i.bytes)) = some (some (.int .i64 0), 1, 8) := by kernel_rfl
def BelPost (l : List Nat) (base : Nat) (w' : World) (e : Ending) : Prop := ∃ v, e = .returned v ∧ w'.ownsRow base 3 1 v l.length (natCells l)
set_option maxRecDepth 100000 in
set_option maxHeartbeats 40000000 in
theorem bel_any (n : Nat) (par : Nat → Nat) (hp : ∀ i, 0 < i → i < n → par i < i) (own : Nat → Bool) (bo bm bk cm ck : Nat) (hn : n ≤ 300000) : ∀ (d f : Nat) (w : World), f < n → n ≤ d + f → KidR w w.heap.size bo n (kidsF n par) own bm bk cm ck →
    Calls Tryd.prog 31 #[.pointer (some ⟨bo, 0, none⟩), .int .i64 (f : Int)] w fun e w' => BelPost (belF (kidsF n par) own d f) w.heap.size w' e ∧ Below w.heap.size w w' := by
  intro d
  induction d with
  | zero => intro f w hf hd; omega
  | succ d ih =>
    intro f w hf hd hR
    have hlen : (belF (kidsF n par) own (d + 1) f).length ≤ n := bel_len n par hp own (d + 1) f
    have hlt := kidsF_lt n par hp
    have hkl : (kidsF n par f).length ≤ n := by
      unfold kidsF
      exact Nat.le_trans (List.length_filter_le _ _) (by simp)
    have HR := hide hR
    have c1 := hR.c1
    obtain ⟨A, c, ck0, hrd⟩ := hR.kd f hf
    have hK0 := fun h0 => natK_form hrd h0
    clear hrd
    have HK := hide hK0
    clear hK0
    have Bi := Below.refl w.heap.size w
    have hf2 : ¬ n ≤ f := by omega
    clear hR
    go_enter Tryd.func31, Tryd.ntmps31
    go_wp2_with fail
    go_loopw [5, 16] (fun v i wr => ∃ j : Nat, j ≤ (kidsF n par f).length ∧ i = .int .i64 j ∧ wr.ownsRow w.heap.size 3 1 v (belP (kidsF n par) own d f j).length (natCells (belP (kidsF n par) own d f j)) ∧ Below w.heap.size w wr) (fun _ i _ => (kidsF n par f).length - (intOf i).toNat)
    case atStart => exact ⟨0, Nat.zero_le _, rfl, by rw [belP_zero]; exact own_none _ _ _ _, Bi⟩
    case round =>
      clear Bi
      obtain ⟨j, hj, rfl, hown, hbel⟩ := hrel
      by_cases hjl : j < (kidsF n par f).length
      · obtain ⟨k, hk⟩ : ∃ k, (kidsF n par f)[j]? = some k := ⟨_, List.getElem?_eq_getElem hjl⟩
        obtain ⟨hfk, hkn⟩ := hlt f k (List.mem_of_getElem? hk)
        obtain ⟨g, off, rfl, hg, hcell⟩ := HK.out (by omega)
        have q0 : wr.cell? ⟨g, off + j, none⟩ = some (.int .i64 (k : Int)) := (hbel.cell (p := ⟨g, off + j, none⟩) hg).trans (hcell j k hk)
        obtain ⟨i, z, p, hi, _, _, hio⟩ := HR.out.mks k hkn
        have hc0 := HR.out.c0
        have hs1 := belP_succ (kidsF n par) own d f j k hk
        have hl1 := belP_len (kidsF n par) own d f (j + 1)
        have hl0 := belP_len (kidsF n par) own d f j
        have hbA := hbel.alloc hbel.size (.cells #[.int .i64 (k : Int)] 3)
        have HW := hide (hown.alloc (.cells #[.int .i64 (k : Int)] 3))
        have HN := hide (Blk.new wr 3 #[.int .i64 (k : Int)])
        have hkn2 : ¬ n ≤ k := by omega
        have hom := HR.out.m
        have hoo := HR.out.o
        have HBA := hide hbA
        have HC := hide (And.intro hi hc0)
        clear hown HK ck0 c1 hbA
        clear hcell hi hc0
        obtain ⟨v, hv⟩ : ∃ v, v = u5 := ⟨_, rfl⟩
        rw [← hv] at HW ⊢
        clear hv
        have hL0 : (belP (kidsF n par) own d f j).length ≤ 1000000 := by omega
        go_wp2_with (first
          | (at_builtin; refine wpList_app1 rfl (.tmp 20) (.tmp 22) _ rfl w.heap.size 3 _ 1 8 Tryd.underlying35 int_inf rfl (Nat.succ_pos _) v _ _ rfl HW.out wr.heap.size 1 _ HN.out rfl rfl rfl hL0 (Nat.le_of_ble_eq_true rfl) HBA.out.size ?_; intro v4 w4 hown4 hg4; have hb4 := own_below HW.out HBA.out (Nat.le_refl _) (Nat.le_refl _) hg4; have hc4 := (hb4.cell (p := ⟨bo, 0, none⟩) hoo).trans HC.out.2; have hi4 := (hb4.cell (p := ⟨bm, k * 3, none⟩) hom).trans HC.out.1)
          | fail)
        · have hk0 : own k = false := by first | exact hio.1 rfl | exact hio.1 (by assumption) | exact hio.1 (beq_iff_eq.1 (by assumption))
          have hs2 : belP (kidsF n par) own d f (j + 1) = belP (kidsF n par) own d f j ++ [k] ++ belF (kidsF n par) own d k := by rw [hs1, hk0]; simp
          have hl2 : (belP (kidsF n par) own d f j).length + 1 + (belF (kidsF n par) own d k).length ≤ n := by
            have := congrArg List.length hs2
            simp only [List.length_append, List.length_cons, List.length_nil] at this
            omega
          refine (ih k w4 hkn (by omega) ((HR.out.below hb4).mono hb4.size)).mono ?_
          rintro e w5 ⟨⟨v5, rfl, hown5⟩, hb5⟩
          have hk5 := own_keep hown4 hb5 (own_lt hown4)
          have hb6 := hb4.trans (hb5.mono hb4.size)
          obtain ⟨A5, c5, rfl, _, hr5⟩ := own_reads hown5
          obtain ⟨i0, hi0, hz0, hz1, hz2⟩ := info_parts int_inf
          have hone : ∀ u ∈ natCells (belF (kidsF n par) own d k), u.oneCell' = true := by
            intro u hu
            obtain ⟨y, _, rfl⟩ := List.mem_map.1 hu
            rfl
          have hm1 : (belP (kidsF n par) own d f j).length + 1 + (belF (kidsF n par) own d k).length ≤ maxLen := by simp only [maxLen]; omega
          have hm2 : ((belP (kidsF n par) own d f j).length + 1 + (belF (kidsF n par) own d k).length) * 8 ≤ 140737488355328 := by omega
          have HK5 := hide hk5
          have HB6 := hide hb6
          have HR5 := hide hr5
          have HO := hide hone
          clear hown4 hb4 hb5 hown5 hk5 hr5 hc4 hi4 hb6
          go_wp2_with (first
            | (at_builtin; refine wpList_append_any _ rfl (.tmp 33) (.tmp 36) _ rfl w.heap.size 3 i0 _ 1 8 Tryd.underlying35 hi0 hz0 hz1 hz2 rfl (Nat.succ_pos _) v4 _ _ rfl HK5.out w5.heap.size A5 _ c5 _ rfl HR5.out HO.out hm1 hm2 HB6.out.size ?_; intro v6 w6 hown6 hg6 hat6; have hb7 := own_below HK5.out HB6.out (Nat.le_refl _) (Nat.le_refl _) hg6)
            | fail)
          go_roundw
          case rel =>
            refine ⟨j + 1, by omega, by go_num, ?_, hb7⟩
            rw [hs2, natCells_app, natCells_app, List.length_append, List.length_append]
            exact hown6
          case measure => simp only [intOf]; omega
        · have hk0 : own k = true := by
            cases ho : own k
            · first | exact absurd (hio.2 ho) (by assumption) | exact absurd (beq_iff_eq.2 (hio.2 ho)) (by assumption) | exact absurd (beq_iff_eq.2 (hio.2 ho)) (Bool.eq_false_iff.1 (by assumption))
            · rfl
          have hs2 : belP (kidsF n par) own d f (j + 1) = belP (kidsF n par) own d f j ++ [k] := by rw [hs1, hk0]; simp
          go_roundw
          case rel =>
            refine ⟨j + 1, by omega, by go_num, ?_, hb4⟩
            rw [hs2, natCells_app, List.length_append]
            exact hown4
          case measure => simp only [intOf]; omega
      · obtain rfl : j = (kidsF n par f).length := by omega
        go_wp2_with fail
        go_ret
        rw [belP_all] at hown
        exact ⟨⟨_, rfl, hown⟩, hbel⟩
end Go.Proofs.YtbpkffoooieejaaDoor
