/- maker.put at the records that box lays. -/
import Derived.Test.YtdnnodpkgncegaaDoorItTx
namespace Go.Proofs.YtdnnodpkgncegaaDoor
open Go.RowKit
section
variable (w : World) (B mb : Nat) (Sb Sl V : Value) (room : Int) (bl : Bool) (s : List Li) (hs : s.length ≤ 10000000) (hB : B ≤ w.heap.size) (hI : ItV w B mb Sb Sl room bl V s)
include hs hB hI
theorem put_w (k b x : Int) : Calls Tryd.prog 15 #[.pointer (some ⟨mb, 0, none⟩), .agg #[.int .i64 k, .int .i64 b, .string ByteArray.empty, .int .i64 0, .int .i64 0, .int .i64 0, .int .i64 0, .int .i64 0, .int .i64 x, .int .i64 0, .int .i64 0]] w fun e w' => e = .returned (.tuple #[]) ∧ ∃ V', ItV w' B mb Sb Sl room bl V' (s ++ [⟨k, b, ByteArray.empty, fun j => if j = 8 then x else 0⟩]) ∧ Stp mb w V w' V' :=
  put_any ⟨k, b, ByteArray.empty, fun j => if j = 8 then x else 0⟩ _ rfl w B mb Sb Sl V room bl s hs hB hI
theorem put_wk (k b x : Int) : Calls Tryd.prog 15 #[.pointer (some ⟨mb, 0, none⟩), .agg #[.int .i64 k, .int .i64 b, .string ByteArray.empty, .int .i64 0, .int .i64 0, .int .i64 0, .int .i64 0, .int .i64 0, .int .i64 x, .int .i64 0, .int .i64 0]] w fun e w' => e = .returned (.tuple #[]) ∧ ∃ (V' : Value) (X : Li) (q : Bool), liKey X = ⟨k, b, q⟩ ∧ ItV w' B mb Sb Sl room bl V' (s ++ [X]) ∧ Stp mb w V w' V' :=
  (put_w w B mb Sb Sl V room bl s hs hB hI k b x).mono fun _ _ ⟨h1, V', h2, h3⟩ => ⟨h1, V', _, _, rfl, h2, h3⟩
theorem put_side (k b x : Int) : Calls Tryd.prog 15 #[.pointer (some ⟨mb, 0, none⟩), .agg #[.int .i64 k, .int .i64 b, .string ByteArray.empty, .int .i64 0, .int .i64 0, .int .i64 0, .int .i64 0, .int .i64 0, .int .i64 0, .int .i64 0, .int .i64 x]] w fun e w' => e = .returned (.tuple #[]) ∧ ∃ V', ItV w' B mb Sb Sl room bl V' (s ++ [⟨k, b, ByteArray.empty, fun j => if j = 10 then x else 0⟩]) ∧ Stp mb w V w' V' :=
  put_any ⟨k, b, ByteArray.empty, fun j => if j = 10 then x else 0⟩ _ rfl w B mb Sb Sl V room bl s hs hB hI
theorem put_shift (k b x : Int) : Calls Tryd.prog 15 #[.pointer (some ⟨mb, 0, none⟩), .agg #[.int .i64 k, .int .i64 b, .string ByteArray.empty, .int .i64 0, .int .i64 0, .int .i64 0, .int .i64 0, .int .i64 x, .int .i64 0, .int .i64 0, .int .i64 0]] w fun e w' => e = .returned (.tuple #[]) ∧ ∃ V', ItV w' B mb Sb Sl room bl V' (s ++ [⟨k, b, ByteArray.empty, fun j => if j = 7 then x else 0⟩]) ∧ Stp mb w V w' V' :=
  put_any ⟨k, b, ByteArray.empty, fun j => if j = 7 then x else 0⟩ _ rfl w B mb Sb Sl V room bl s hs hB hI
theorem put_bare (k b : Int) : Calls Tryd.prog 15 #[.pointer (some ⟨mb, 0, none⟩), .agg #[.int .i64 k, .int .i64 b, .string ByteArray.empty, .int .i64 0, .int .i64 0, .int .i64 0, .int .i64 0, .int .i64 0, .int .i64 0, .int .i64 0, .int .i64 0]] w fun e w' => e = .returned (.tuple #[]) ∧ ∃ V', ItV w' B mb Sb Sl room bl V' (s ++ [⟨k, b, ByteArray.empty, fun _ => 0⟩]) ∧ Stp mb w V w' V' :=
  put_any ⟨k, b, ByteArray.empty, fun _ => 0⟩ _ rfl w B mb Sb Sl V room bl s hs hB hI
end
end Go.Proofs.YtdnnodpkgncegaaDoor
