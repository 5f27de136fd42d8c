/- The walk of tame: at most 25 items, of bounded numbers. -/
import Derived.BigQuiet
import Derived.Handy
import Derived.IntWalk
import Derived.Deep.MidRow
import Derived.Test.YtadlabndbomgmaaDoorJ2
set_option linter.unusedVariables false
set_option linter.unusedSimpArgs false
namespace Go.Proofs.YtadlabndbomgmaaDoor
open Go.ChangeShapes Go.WideShapes Go.ChangeAt Go.RowKit
theorem item_info : (Tryd.prog.info? 41).map (fun i => (i.zero, i.size, i.bytes)) = some (some (.agg #[.int .i64 0, .int .i64 0, .string ByteArray.empty, .int .i64 0, .int .i64 0, .int .i64 0, .int .i64 0, .int .i64 0, .int .i64 0, .int .i64 0, .int .i64 0]), 11, 96) := by kernel_rfl
theorem tu16 (n : Int) : 0 ≤ IntKind.u16.wrap n ∧ IntKind.u16.wrap n ≤ 65535 := by rw [IntKind.wrap_u16]; omega
theorem ti8 (n : Int) : -128 ≤ IntKind.i8.wrap n ∧ IntKind.i8.wrap n ≤ 127 := by simp only [IntKind.wrap, IntKind.bits, IntKind.signed]; simp; omega
def tameI (x : It) : It := ⟨x.kind, x.box, x.text.extract 0 (min (x.text.size : Int) 60).toNat, IntKind.u16.wrap x.size, x.spacing % 256, IntKind.u16.wrap x.height, x.mode, IntKind.i8.wrap x.shift, IntKind.u16.wrap x.w, IntKind.u16.wrap x.h, x.side⟩
def tameTo (l : List It) (k : Nat) : List It := (l.take k).map tameI
def tameF (l : List It) : List It := tameTo l (min l.length 25)
theorem tameTo_len (l : List It) (k : Nat) (h : k ≤ l.length) : (tameTo l k).length = k := by simp [tameTo, h]
theorem tameTo_next (l : List It) (k : Nat) (h : k < l.length) : tameTo l (k + 1) = tameTo l k ++ [tameI (itAt l k)] := by
  unfold tameTo; rw [List.take_succ_eq_append_getElem h, List.map_append, itAt_of l k h]; rfl
theorem tameI_ok (x : It) : ItOk (tameI x) := by
  have h1 := tu16 x.size
  have h2 := tu16 x.height
  have h3 := ti8 x.shift
  have h4 := tu16 x.w
  have h5 := tu16 x.h
  have h6 : (x.text.extract 0 (min (x.text.size : Int) 60).toNat).size ≤ 60 := by rw [ByteArray.size_extract]; omega
  unfold ItOk tameI
  simp only
  omega
theorem tameF_ok (l : List It) : ItsOk (tameF l) := by
  refine ⟨by unfold tameF; rw [tameTo_len _ _ (by omega)]; omega, fun x hx => ?_⟩
  unfold tameF tameTo at hx
  obtain ⟨y, _, rfl⟩ := List.mem_map.1 hx
  exact tameI_ok y
set_option maxRecDepth 100000 in
set_option maxHeartbeats 4000000 in
theorem tame_any (l : List It) (A : Option Addr) (c : Nat) (w : World) (hr : ItsIn w A l) (hn : l.length ≤ c) (hc : c ≤ maxLen) (hs : ∀ k, k < l.length → (itAt l k).text.size ≤ maxLen) :
    Calls Tryd.prog 18 #[.slice A l.length c] w fun e w' => ∃ v, e = .returned v ∧ w'.ownsRow w.heap.size 41 11 v (tameF l).length (itCells (tameF l)) ∧ Below w.heap.size w w' := by
  unfold maxLen at hc
  have Hr := hide hr
  have HZ := hide hs
  have HF := hide (show tameF l = tameTo l (min l.length 25) from rfl)
  clear hr hs
  go_enter Tryd.func18, Tryd.ntmps18
  go_wp2_with fail
  have En : (min (l.length : Int) 25).toNat = min l.length 25 := by omega
  have En3 : max (min (l.length : Int) 25) 0 = ((min l.length 25 : Nat) : Int) := by omega
  have En2 : min (l.length : Int) 25 = ((min l.length 25 : Nat) : Int) := by omega
  rw [En, En3, En2]
  clear En En3 En2
  have hn1 : min l.length 25 ≤ l.length := by omega
  have hn2 : min l.length 25 ≤ 25 := by omega
  generalize hm : min l.length 25 = m at *
  clear hm
  go_loopw [3, 12] (fun v i wr => ∃ k : Nat, k ≤ m ∧ i = .int .i64 k ∧ wr.ownsRow w.heap.size 41 11 v k (itCells (tameTo l k)) ∧ Below w.heap.size w wr) (fun _ i _ => m - (intOf i).toNat)
  case atStart => exact ⟨0, Nat.zero_le _, rfl, own_none _ _ _ _, Below.refl _ _⟩
  case round =>
    obtain ⟨k, hk, rfl, hown, hbel⟩ := hrel
    have HW := hide hown
    have hszr := hbel.size
    clear hown
    obtain ⟨v, hv⟩ : ∃ v, v = u3 := ⟨_, rfl⟩
    rw [← hv] at HW ⊢
    clear hv
    by_cases hlt : k < m
    · obtain ⟨g, off, rfl, hgl, hcell⟩ := Hr.out k (by omega)
      have cc : ∀ j, j < 11 → wr.cell? ⟨g, off + k * 11 + j, none⟩ = (itC (itAt l k))[j]? := fun j hj => (hbel.cell (p := ⟨g, off + k * 11 + j, none⟩) hgl).trans (hcell j hj)
      have HNX := hide (tameTo_next l k (by omega))
      have hsz := HZ.out k (by omega)
      unfold maxLen at hsz
      clear hcell
      generalize itAt l k = x at *
      obtain ⟨kd, bx, tx, sz, sp, ht, md, sh, wd, hh, sd⟩ := x
      simp only at hsz
      have d0 : wr.cell? ⟨g, off + k * 11, none⟩ = some (.int .i64 kd) := cc 0 (by omega)
      have d1 : wr.cell? ⟨g, off + k * 11 + 1, none⟩ = some (.int .i64 bx) := cc 1 (by omega)
      have d2 : wr.cell? ⟨g, off + k * 11 + 2, none⟩ = some (.string tx) := cc 2 (by omega)
      have d3 : wr.cell? ⟨g, off + k * 11 + 3, none⟩ = some (.int .i64 sz) := cc 3 (by omega)
      have d4 : wr.cell? ⟨g, off + k * 11 + 4, none⟩ = some (.int .i64 sp) := cc 4 (by omega)
      have d5 : wr.cell? ⟨g, off + k * 11 + 5, none⟩ = some (.int .i64 ht) := cc 5 (by omega)
      have d6 : wr.cell? ⟨g, off + k * 11 + 6, none⟩ = some (.int .i64 md) := cc 6 (by omega)
      have d7 : wr.cell? ⟨g, off + k * 11 + 7, none⟩ = some (.int .i64 sh) := cc 7 (by omega)
      have d8 : wr.cell? ⟨g, off + k * 11 + 8, none⟩ = some (.int .i64 wd) := cc 8 (by omega)
      have d9 : wr.cell? ⟨g, off + k * 11 + 9, none⟩ = some (.int .i64 hh) := cc 9 (by omega)
      have d10 : wr.cell? ⟨g, off + k * 11 + 10, none⟩ = some (.int .i64 sd) := cc 10 (by omega)
      clear cc
      have h1 := tu16 sz
      have h2 := tu16 ht
      have h3 := ti8 sh
      have h4 := tu16 wd
      have h5 := tu16 hh
      have MS := hide (show itCells (tameTo l (k + 1)) = itCells (tameTo l k) ++ (#[.int .i64 kd, .int .i64 bx, .string (tx.extract 0 (min (tx.size : Int) 60).toNat), .int .i64 (IntKind.u16.wrap sz), .int .i64 (sp % 256), .int .i64 (IntKind.u16.wrap ht), .int .i64 md, .int .i64 (IntKind.i8.wrap sh), .int .i64 (IntKind.u16.wrap wd), .int .i64 (IntKind.u16.wrap hh), .int .i64 sd] : Array Value).toList from by rw [HNX.out, itCells_snoc]; rfl)
      have hsA : (wr.alloc (.cells #[.int .i64 kd, .int .i64 bx, .string (tx.extract 0 (min (tx.size : Int) 60).toNat), .int .i64 (IntKind.u16.wrap sz), .int .i64 (sp % 256), .int .i64 (IntKind.u16.wrap ht), .int .i64 md, .int .i64 (IntKind.i8.wrap sh), .int .i64 (IntKind.u16.wrap wd), .int .i64 (IntKind.u16.wrap hh), .int .i64 sd] 41)).heap.size = wr.heap.size + 1 := by simp
      have HBX := Blk.new (wr.alloc (.cells #[.int .i64 kd, .int .i64 bx, .string (tx.extract 0 (min (tx.size : Int) 60).toNat), .int .i64 (IntKind.u16.wrap sz), .int .i64 (sp % 256), .int .i64 (IntKind.u16.wrap ht), .int .i64 md, .int .i64 (IntKind.i8.wrap sh), .int .i64 (IntKind.u16.wrap wd), .int .i64 (IntKind.u16.wrap hh), .int .i64 sd] 41)) 41 #[.int .i64 kd, .int .i64 bx, .string (tx.extract 0 (min (tx.size : Int) 60).toNat), .int .i64 (IntKind.u16.wrap sz), .int .i64 (sp % 256), .int .i64 (IntKind.u16.wrap ht), .int .i64 md, .int .i64 (IntKind.i8.wrap sh), .int .i64 (IntKind.u16.wrap wd), .int .i64 (IntKind.u16.wrap hh), .int .i64 sd]
      rw [hsA] at HBX
      have HBX2 := hide HBX
      have HVA := hide ((HW.out.alloc (.cells #[.int .i64 kd, .int .i64 bx, .string (tx.extract 0 (min (tx.size : Int) 60).toNat), .int .i64 (IntKind.u16.wrap sz), .int .i64 (sp % 256), .int .i64 (IntKind.u16.wrap ht), .int .i64 md, .int .i64 (IntKind.i8.wrap sh), .int .i64 (IntKind.u16.wrap wd), .int .i64 (IntKind.u16.wrap hh), .int .i64 sd] 41)).alloc (.cells #[.int .i64 kd, .int .i64 bx, .string (tx.extract 0 (min (tx.size : Int) 60).toNat), .int .i64 (IntKind.u16.wrap sz), .int .i64 (sp % 256), .int .i64 (IntKind.u16.wrap ht), .int .i64 md, .int .i64 (IntKind.i8.wrap sh), .int .i64 (IntKind.u16.wrap wd), .int .i64 (IntKind.u16.wrap hh), .int .i64 sd] 41))
      have HBL := hide ((hbel.alloc hszr (.cells #[.int .i64 kd, .int .i64 bx, .string (tx.extract 0 (min (tx.size : Int) 60).toNat), .int .i64 (IntKind.u16.wrap sz), .int .i64 (sp % 256), .int .i64 (IntKind.u16.wrap ht), .int .i64 md, .int .i64 (IntKind.i8.wrap sh), .int .i64 (IntKind.u16.wrap wd), .int .i64 (IntKind.u16.wrap hh), .int .i64 sd] 41)).alloc (by rw [hsA]; omega) (.cells #[.int .i64 kd, .int .i64 bx, .string (tx.extract 0 (min (tx.size : Int) 60).toNat), .int .i64 (IntKind.u16.wrap sz), .int .i64 (sp % 256), .int .i64 (IntKind.u16.wrap ht), .int .i64 md, .int .i64 (IntKind.i8.wrap sh), .int .i64 (IntKind.u16.wrap wd), .int .i64 (IntKind.u16.wrap hh), .int .i64 sd] 41))
      clear HBX hsA HNX
      go_wp2_with (first | (at_builtin; refine wpList_app1 rfl (.tmp 54) (.tmp 56) _ rfl w.heap.size 41 _ 11 96 Tryd.underlying35 item_info rfl (Nat.succ_pos _) _ k _ rfl HVA.out (wr.heap.size + 1) 1 _ HBX2.out rfl rfl rfl (by omega) (Nat.le_of_ble_eq_true rfl) HBL.out.size ?_; intro v4 w4 hown4 hg4; have hb9 := own_below HVA.out HBL.out (Nat.le_refl _) (Nat.le_refl _) hg4) | fail)
      go_roundw
      case rel => exact ⟨k + 1, by omega, by go_num, by rw [MS.out]; exact hown4, hb9⟩
      case measure => simp [intOf]; omega
    · obtain rfl : k = m := by omega
      go_wp2_with fail
      go_ret
      exact ⟨v, rfl, by rw [HF.out, tameTo_len _ _ (by omega)]; exact HW.out, hbel⟩
end Go.Proofs.YtadlabndbomgmaaDoor
