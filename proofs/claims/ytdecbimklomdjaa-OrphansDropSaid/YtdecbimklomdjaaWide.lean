/- purser/wide: Of; math/bits' Mul64. -/
import Derived.Test.YtdecbimklomdjaaRoots
import Derived.Shelf.Bits.Mul64
import Derived.Shelf.Spec.BitsCarry
namespace Go.Proofs.Ytdecbimklomdjaa
open Go Go.RowKit Go.Shelf
/-- A word of 64 bits, as a value; four of them. -/
def V64 (n : Nat) : Value := .int .u64 (n : Int)
def wideA (l : List Nat) : Array Value := (l.map V64).toArray
theorem size_wideA (l : List Nat) : (wideA l).size = l.length := by simp [wideA]
theorem all_wide (l : List Nat) : (wideA l).all (·.oneCell') = true := by
  unfold wideA
  rw [List.all_toArray, List.all_map]
  exact List.all_eq_true.2 fun _ _ => rfl
set_option maxRecDepth 100000 in
theorem wof_any (n : Nat) (w : World) : Calls Try.prog 64 #[V64 n] w fun e w' => e = .returned (.agg (wideA [n, 0, 0, 0])) ∧ Below w.heap.size w w' := by
  show Calls Try.prog 64 #[.int .u64 (n : Int)] w _
  go_enter Try.func64, Try.ntmps64
  go_wp2_with ((with_reducible refine wpList_store_row ?_ 102 (.tmp 2) (.tmp 4) ?_ w.heap.size (wideA [n, 0, 0, 0]) ?_ ?_ 102 _ (heap_alloc_new w _) ?_ ?_ ?_ ?_);  (next => rfl); (next => rfl); (next => rfl); (next => rfl); (next => kernel_rfl); (next => rfl); (next => exact all_wide _); rw [World.setRow_alloc_new])
  exact bodyPost_ret (results_cell_row rfl _ _ w.heap.size 102 (wideA [n, 0, 0, 0]) (0, 0) _ rfl (heap_alloc_new w _) Try.underlying102 rfl (by kernel_rfl)) rfl ⟨rfl, (Below.refl _ _).alloc (Nat.le_refl _) _⟩
set_option maxRecDepth 100000 in
theorem mul64_any (x y : Nat) (hx : x < 18446744073709551616) (hy : y < 18446744073709551616) (w : World) :
    Calls Try.prog 129 #[V64 x, V64 y] w fun e w' => e = .returned (.tuple #[V64 (x * y / 18446744073709551616), V64 (x * y % 18446744073709551616)]) ∧ w = w' := by
  obtain ⟨bd, bt, bw, hhi⟩ := Lib.mul64_hi x y hx hy
  have ba := Lib.half_mul_le (a := x / 4294967296) (b := y / 4294967296) (by omega) (by omega)
  have bb := Lib.half_mul_le (a := x / 4294967296) (b := y % 4294967296) (by omega) (by omega)
  have bc := Lib.half_mul_le (a := x % 4294967296) (b := y / 4294967296) (by omega) (by omega)
  have ba' : x / 4294967296 * (y / 4294967296) < 18446744073709551616 := by omega
  have bb' : x / 4294967296 * (y % 4294967296) < 18446744073709551616 := by omega
  have bc' : x % 4294967296 * (y / 4294967296) < 18446744073709551616 := by omega
  have bh1 : x / 4294967296 * (y / 4294967296) + (x / 4294967296 * (y % 4294967296) + x % 4294967296 * (y % 4294967296) / 4294967296) / 4294967296 < 18446744073709551616 := by omega
  have hxy : x * y / 18446744073709551616 < 18446744073709551616 := by
    have := Nat.mul_le_mul (Nat.le_of_lt_succ (Nat.lt_succ_of_lt hx)) (Nat.le_of_lt hy)
    exact Nat.div_lt_of_lt_mul (Nat.mul_lt_mul_of_lt_of_le hx (Nat.le_of_lt hy) (by omega))
  have bh := Eq.subst (motive := fun z => z < 18446744073709551616) hhi.symm hxy
  unfold V64
  go_enter Try.func129, Try.ntmps129
  go_wp2
  simp only [Mul64.maskN x hx, Mul64.maskN y hy, Mul64.divN, Mul64.mulN, Mul64.addN, Mul64.wrapN _ bd, Mul64.wrapN _ bb', Mul64.wrapN _ bt, Mul64.maskN _ bt, Mul64.wrapN _ bc', Mul64.wrapN _ bw, Mul64.wrapN _ ba', Mul64.wrapN _ bh1, Mul64.wrapN _ bh, Mul64.wrapM (x * y)]
  rw [hhi]
  go_ret2
  exact ⟨rfl, rfl⟩
theorem add64_run (x y c : Nat) (hc : c ≤ 1) (w : World) :
    (callFunc 130 #[V64 x, V64 y, V64 c]).run Try.prog w = .ok (.value (.tuple #[V64 ((x + y + c) % 18446744073709551616), V64 ((x + y + c) / 18446744073709551616)])) w := by
  unfold V64
  rw [run_callFunc_extern Try.func130 (by kernel_rfl) (by kernel_rfl) (by kernel_rfl) (e := add64Entry) (by kernel_rfl), run_add64 x y c (by omega) (by omega) (by omega) (by omega)]
  simp only [Result.andThen]
  congr 5 <;> omega
theorem sub64_run (x y b : Nat) (hb : b ≤ 1) (w : World) :
    (callFunc 128 #[V64 x, V64 y, V64 b]).run Try.prog w = .ok (.value (.tuple #[V64 ((x + 18446744073709551616 - y - b) % 18446744073709551616), V64 (if x < y + b then 1 else 0)])) w := by
  unfold V64
  rw [run_callFunc_extern Try.func128 (by kernel_rfl) (by kernel_rfl) (by kernel_rfl) (e := sub64Entry) (by kernel_rfl), run_sub64 x y b hb]
  rfl
end Go.Proofs.Ytdecbimklomdjaa
