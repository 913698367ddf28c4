/- purser/wide: Sub. -/
import Derived.Test.YtdecbimklomdjaaWide
namespace Go.Proofs.Ytdecbimklomdjaa
open Go Go.RowKit Go.Shelf
/-- What words of 64 bits come to, the lowest first. -/
def val : List Nat → Nat
  | [] => 0
  | x :: l => x + 18446744073709551616 * val l
def subV (B k x y c d c' : Nat) : Nat → Value
  | 0 => .int .i64 k
  | 1 => .int .i64 k
  | 2 => .pointer (some ⟨B, k, none⟩)
  | 3 => V64 x
  | 4 => .int .i64 k
  | 5 => .pointer (some ⟨B + 1, k, none⟩)
  | 6 => V64 y
  | 7 => V64 c
  | 8 => .tuple #[V64 d, V64 c']
  | 9 => .tuple #[V64 d, V64 c']
  | 10 => V64 d
  | 11 => V64 c'
  | _ => .pointer (some ⟨B + 2, k, none⟩)
/-- The borrow behind the first k words. -/
def borrow (a b : List Nat) : Nat → Nat
  | 0 => 0
  | k + 1 => if a.getD k 0 < b.getD k 0 + borrow a b k then 1 else 0
theorem borrow_le (a b : List Nat) (k : Nat) : borrow a b k ≤ 1 := by
  cases k with
  | zero => simp [borrow]
  | succ k => unfold borrow; split <;> omega
theorem wideA_get (l : List Nat) (k : Nat) (h : k < l.length) : (wideA l)[k]? = some (V64 (l.getD k 0)) := by
  unfold wideA
  rw [List.getElem?_toArray, List.getElem?_map, List.getD, List.getElem?_eq_getElem h]; rfl
theorem wideA_set (l : List Nat) (k x : Nat) : (wideA l).setIfInBounds k (V64 x) = wideA (l.set k x) := by
  unfold wideA
  rw [List.setIfInBounds_toArray, List.map_set]
set_option maxRecDepth 100000 in
set_option maxHeartbeats 1000000 in
theorem wsub_any (la lb : List Nat) (ha : la.length = 4) (hb4 : lb.length = 4) (w : World) :
    Calls Try.prog 105 #[.agg (wideA la), .agg (wideA lb)] w fun e w' => (∃ d, d.length = 4 ∧ e = .returned (.tuple #[.agg (wideA d), .bool (borrow la lb 4 == 1)])) ∧ Below w.heap.size w w' := by
  obtain ⟨W1, hW1, hb1, hn1, hn2, hn3, hsz⟩ := three_at w (.cells (wideA la) 102) (.cells (wideA lb) 102) (.cells (wideA [0, 0, 0, 0]) 102)
  go_enter Try.func105, Try.ntmps105
  go_wp2_with fail
  change Code.wp Try.prog _ _ _ (((w.alloc (.cells (wideA la) 102)).alloc (.cells (wideA lb) 102)).alloc (.cells (wideA [0, 0, 0, 0]) 102))
  rw [hW1]
  obtain ⟨B, hB⟩ : ∃ B, B = w.heap.size := ⟨_, rfl⟩
  rw [← hB] at hn1 hn2 hn3 hsz
  rw [← hB]
  have HBB := Lib.hid hB
  clear hB hW1
  go_loopw [6, 8] (fun c i wr => ∃ (k : Nat) (d : List Nat), k ≤ 4 ∧ i = .int .i64 k ∧ c = V64 (borrow la lb k) ∧ d.length = 4 ∧ Below w.heap.size w wr ∧ wr.heap[B]? = some (.cells (wideA la) 102 (0, 0)) ∧ wr.heap[B + 1]? = some (.cells (wideA lb) 102 (0, 0)) ∧ wr.heap[B + 2]? = some (.cells (wideA d) 102 (0, 0))) (fun _ i _ => 4 - (intOf i).toNat)
  case atStart => exact ⟨0, [0, 0, 0, 0], by omega, rfl, rfl, rfl, hb1, hn1, hn2, hn3⟩
  case round =>
    obtain ⟨k, dl, hk, rfl, rfl, hdl, hbe, h1, h2, h3⟩ := hrel
    have HA := Lib.hid h1
    have HBR := Lib.hid h2
    have HD := Lib.hid h3
    have HBE := Lib.hid hbe
    by_cases hlt : k < 4
    · have hBl := (Array.getElem?_eq_some_iff.1 h1).1
      have hBl1 := (Array.getElem?_eq_some_iff.1 h2).1
      obtain ⟨x, hx⟩ : ∃ x, x = la.getD k 0 := ⟨_, rfl⟩
      obtain ⟨y, hy⟩ : ∃ y, y = lb.getD k 0 := ⟨_, rfl⟩
      obtain ⟨c, hce0⟩ : ∃ c, c = borrow la lb k := ⟨_, rfl⟩
      have hc : c ≤ 1 := by rw [hce0]; exact borrow_le la lb k
      have hcx : wr.cell? ⟨B, k, none⟩ = some (V64 x) := (cell_of_row _ _ _ _ _ _ h1).trans (by rw [hx]; exact wideA_get _ _ (by omega))
      have hcy : wr.cell? ⟨B + 1, k, none⟩ = some (V64 y) := (cell_of_row _ _ _ _ _ _ h2).trans (by rw [hy]; exact wideA_get _ _ (by omega))
      obtain ⟨d, hde⟩ : ∃ d, d = (x + 18446744073709551616 - y - c) % 18446744073709551616 := ⟨_, rfl⟩
      obtain ⟨c', hce⟩ : ∃ c', c' = if x < y + c then 1 else 0 := ⟨_, rfl⟩
      have hnext : c' = borrow la lb (k + 1) := by rw [hce, hx, hy, hce0]; rfl
      have HNX := Lib.hid hnext
      have hk4 : (k : Int) < 4 := by omega
      rw [← hce0]
      clear h1 h2 h3 hbe hx hy hce0 hnext
      go_wp2_with fail
      have hcd : wr.cell? ⟨B + 2, k, none⟩ = some (V64 (dl.getD k 0)) := (cell_of_row _ _ _ _ _ _ HD.out).trans (wideA_get _ _ (by omega))
      have hfd : wr.frozen? ⟨B + 2, k, none⟩ = false := frozen_of_row _ _ _ _ _ HD.out
      have hmix : Try.prog.follows Departure.mixedOrders = true := by kernel_rfl
      have hsub := fun w => sub64_run x y c hc w
      rw [← hde, ← hce] at hsub
      unfold V64 at *
      go_region_with (fail)
      all_goals go_wp2_with fail
      all_goals go_roundw
      all_goals first
        | (simp [intOf]; omega; done)
        | (refine ⟨k + 1, dl.set k d, by omega, by simp, ?_, by rw [List.length_set]; exact hdl, (HBE.out.setCell (p := ⟨B + 1 + 1, k, none⟩) (by show w.heap.size ≤ B + 1 + 1; rw [HBB.out]; omega) _).drew, (heap_setCell_other _ _ _ _ (by show B ≠ B + 1 + 1; omega)).trans HA.out, (heap_setCell_other _ _ _ _ (by show B + 1 ≠ B + 1 + 1; omega)).trans HBR.out, ?_⟩
           · rw [← HNX.out, hce]; rfl
           · rw [← wideA_set, hde]
             exact (heap_setCell_same _ _ _ _ _ _ HD.out).trans (by unfold V64; simp))
    · have hk4 : k = 4 := by omega
      subst hk4
      have hbl := borrow_le la lb 4
      have hrow : (wideA dl).size = 4 := by rw [size_wideA, hdl]
      clear h1 h2 h3 hbe
      unfold V64
      go_wp2_with (first | ((with_reducible refine wpList_load_row ?_ 102 (.tmp 4) ?_ (B + 2) ?_ 102 _ (0, 0) _ HD.out Try.underlying102 ?_ ?_ ?_); (next => rfl); (next => rfl); (next => rfl); (next => rfl); (next => rw [hrow]; kernel_rfl)) | ((with_reducible refine wpList_store_row ?_ 102 (.tmp 4) (.tmp 25) ?_ (B + 2) (wideA dl) ?_ ?_ 102 _ HD.out ?_ ?_ ?_ ?_);  (next => rfl); (next => rfl); (next => rfl); (next => rfl); (next => rw [hrow]; kernel_rfl); (next => rfl); (next => exact all_wide _)))
      rw [setRow_self _ _ _ _ _ HD.out]
      have hdec : decide (0 < borrow la lb 4) = (borrow la lb 4 == 1) := by
        rw [Bool.eq_iff_iff]; simp; omega
      have hrun : (loadVar 102 ⟨B + 2, 0, none⟩).run Try.prog wr = .ok (.agg (wideA dl)) wr := run_loadVar_row wr (B + 2) 102 102 (wideA dl) (0, 0) _ HD.out Try.underlying102 rfl (by rw [hrow]; kernel_rfl)
      refine bodyPost_ret (v := .tuple #[.agg (wideA dl), .bool (borrow la lb 4 == 1)]) ?_ rfl ⟨⟨dl, hdl, rfl⟩, HBE.out⟩
      rw [results_cell_tmp (p := 4) (ty := 102) (u := 5) rfl, ← hdec]
      simp only [asAddr, Array.getD_eq_getD_getElem?, List.getElem?_toArray, List.getElem?_cons_succ, List.getElem?_cons_zero, Option.getD_some, Sem.run_pure, Result.andThen_ok, hrun]
end Go.Proofs.Ytdecbimklomdjaa
