/- purser/wide: Left, of a small number by 64 or by 96 bits. -/
import Derived.Test.YtdecbimklomdjaaMul
namespace Go.Proofs.Ytdecbimklomdjaa
open Go Go.RowKit Go.Shelf
set_option maxRecDepth 100000 in
set_option maxHeartbeats 1000000 in
theorem left64_any (p : Nat) (hp : p < 4294967296) (w : World) :
    Calls Try.prog 65 #[.agg (wideA [p, 0, 0, 0]), .int .i64 64] w fun e w' => e = .returned (.agg (wideA [0, p, 0, 0])) ∧ Below w.heap.size w w' := by
  obtain ⟨W1, hW1, hb1, hn1, hn2, hn3, hsz⟩ := three_at w (.cells (wideA [p, 0, 0, 0]) 102) (.cells (wideA [0, 0, 0, 0]) 102) (.cells (wideA [0, 0, 0, 0]) 102)
  obtain ⟨B, hBe⟩ : ∃ B, B = w.heap.size := ⟨_, rfl⟩
  obtain ⟨B1, h1⟩ : ∃ x, x = B + 1 := ⟨_, rfl⟩
  obtain ⟨B2, h2⟩ : ∃ x, x = B1 + 1 := ⟨_, rfl⟩
  have e2 : B2 = B + 2 := by omega
  rw [← hBe, ← h1] at hn2
  rw [← hBe] at hn1
  rw [← hBe, ← e2] at hn3
  have HW1 := Lib.hid hW1
  have H1 := Lib.hid h1
  have H2 := Lib.hid h2
  have HBE := Lib.hid hBe
  clear hW1 hsz h1 h2 hBe e2
  go_enter Try.func65, Try.ntmps65
  go_wp2_with fail
  change Code.wp Try.prog _ _ _ (((w.alloc (.cells (wideA [p, 0, 0, 0]) 102)).alloc (.cells (wideA [0, 0, 0, 0]) 102)).alloc (.cells (wideA [0, 0, 0, 0]) 102))
  rw [HW1.out, ← HBE.out, ← H1.out, ← H2.out]
  clear HW1
  have hbB := hb1
  go_loopw [8] (fun i wr => ∃ (k : Nat), 1 ≤ k ∧ k ≤ 4 ∧ i = .int .i64 k ∧ Below w.heap.size w wr ∧ wr.heap[B]? = some (.cells (wideA [p, 0, 0, 0]) 102 (0, 0)) ∧ wr.heap[B1]? = some (.cells (wideA [0, 0, 0, 0]) 102 (0, 0)) ∧ wr.heap[B2]? = some (.cells (wideA (if k = 1 then [0, 0, 0, 0] else [0, p, 0, 0])) 102 (0, 0))) (fun i _ => 4 - (intOf i).toNat)
  case atStart => exact ⟨1, by omega, by omega, rfl, hb1, hn1, hn2, hn3⟩
  case round =>
    obtain ⟨k, hk1, hk4, rfl, hbw, h1, h2, h3⟩ := hrel
    clear hb1 hn1 hn2 hn3 hbB
    have HBW := Lib.hid hbw
    have HR0 := Lib.hid h1
    have HR1 := Lib.hid h2
    have hf := fun j => frozen_of_row (w := wr) B2 j _ _ h3
    obtain rfl | rfl | rfl | rfl : k = 1 ∨ k = 2 ∨ k = 3 ∨ k = 4 := by omega
    · rw [if_pos rfl] at h3
      have HR2 := Lib.hid h3
      have c0 : wr.cell? ⟨B, 0, none⟩ = some (.int .u64 (p : Int)) := (cell_of_row _ _ _ _ _ _ h1).trans rfl
      have c1 : wr.cell? ⟨B2, 1, none⟩ = some (.int .u64 0) := (cell_of_row _ _ _ _ _ _ h3).trans rfl
      have f1 := hf 1
      clear h1 h2 h3 hbw hf
      go_wp2_with fail
      refine ⟨⟨2, by omega, by omega, rfl, HBW.out.setCell (p := ⟨B2, 1, none⟩) (by show w.heap.size ≤ B2; rw [H2.out, H1.out, HBE.out]; omega) _, (heap_setCell_other _ _ _ _ (by show B ≠ B2; rw [H2.out, H1.out]; omega)).trans HR0.out, (heap_setCell_other _ _ _ _ (by show B1 ≠ B2; rw [H2.out]; omega)).trans HR1.out, ?_⟩, by decide⟩
      exact (heap_setCell_same _ _ _ _ _ _ HR2.out).trans (by rfl)
    · rw [if_neg (by omega)] at h3
      have HR2 := Lib.hid h3
      have c0 : wr.cell? ⟨B, 0, none⟩ = some (.int .u64 (p : Int)) := (cell_of_row _ _ _ _ _ _ h1).trans rfl
      have c1 : wr.cell? ⟨B, 1, none⟩ = some (.int .u64 0) := (cell_of_row _ _ _ _ _ _ h1).trans rfl
      have c2 : wr.cell? ⟨B2, 2, none⟩ = some (.int .u64 0) := (cell_of_row _ _ _ _ _ _ h3).trans rfl
      have f2 := hf 2
      have hself : wr.setCell ⟨B2, 2, none⟩ (.int .u64 0) = wr := (setCell_eq_setRow _ _ _ _ _ _ _ h3).trans (setRow_self _ _ _ _ _ h3)
      clear h1 h2 h3 hbw hf
      go_wp2_with fail
      have hmix : Try.prog.follows Departure.mixedOrders = true := by kernel_rfl
      have hdiv : (p : Int) / 18446744073709551616 = 0 := by omega
      have hor : bits .or .u64 0 0 = 0 := by decide
      go_region_with (fail)
      all_goals go_wp2_with fail
      all_goals exact ⟨⟨3, by omega, by omega, rfl, HBW.out.drew, HR0.out, HR1.out, HR2.out⟩, by decide⟩
    · rw [if_neg (by omega)] at h3
      have HR2 := Lib.hid h3
      have c0 : wr.cell? ⟨B, 1, none⟩ = some (.int .u64 0) := (cell_of_row _ _ _ _ _ _ h1).trans rfl
      have c1 : wr.cell? ⟨B, 2, none⟩ = some (.int .u64 0) := (cell_of_row _ _ _ _ _ _ h1).trans rfl
      have c2 : wr.cell? ⟨B2, 3, none⟩ = some (.int .u64 0) := (cell_of_row _ _ _ _ _ _ h3).trans rfl
      have f2 := hf 3
      have hself : wr.setCell ⟨B2, 3, none⟩ (.int .u64 0) = wr := (setCell_eq_setRow _ _ _ _ _ _ _ h3).trans (setRow_self _ _ _ _ _ h3)
      clear h1 h2 h3 hbw hf
      go_wp2_with fail
      have hmix : Try.prog.follows Departure.mixedOrders = true := by kernel_rfl
      have hor : bits .or .u64 0 0 = 0 := by decide
      go_region_with (fail)
      all_goals go_wp2_with fail
      all_goals exact ⟨⟨4, by omega, by omega, rfl, HBW.out.drew, HR0.out, HR1.out, HR2.out⟩, by decide⟩
    · rw [if_neg (by omega)] at h3
      have HR2 := Lib.hid h3
      clear h1 h2 h3 hbw hf
      go_wp2_with (first | ((with_reducible refine wpList_load_row ?_ 102 (.tmp 5) ?_ B2 ?_ 102 _ (0, 0) _ HR2.out Try.underlying102 ?_ ?_ ?_); (next => rfl); (next => rfl); (next => rfl); (next => rfl); (next => kernel_rfl)) | ((with_reducible refine wpList_store_row ?_ 102 (.tmp 4) (.tmp 50) ?_ B1 (wideA [0, p, 0, 0]) ?_ ?_ 102 _ HR1.out ?_ ?_ ?_ ?_);  (next => rfl); (next => rfl); (next => rfl); (next => rfl); (next => kernel_rfl); (next => rfl); (next => exact all_wide _)))
      have hrow : (wr.setRow B1 (wideA [0, p, 0, 0])).heap[B1]? = some (.cells (wideA [0, p, 0, 0]) 102 (0, 0)) := setRow_heap _ _ _ _ _ _ HR1.out
      exact bodyPost_ret (results_cell_row rfl _ _ B1 102 (wideA [0, p, 0, 0]) (0, 0) _ rfl hrow Try.underlying102 rfl (by kernel_rfl)) rfl ⟨rfl, below_setRow HBW.out (by rw [H1.out, HBE.out]; omega) _⟩
set_option maxRecDepth 100000 in
set_option maxHeartbeats 1000000 in
theorem left96_any (p : Nat) (hp : p < 4294967296) (w : World) :
    Calls Try.prog 65 #[.agg (wideA [p, 0, 0, 0]), .int .i64 96] w fun e w' => e = .returned (.agg (wideA [0, p * 4294967296, 0, 0])) ∧ Below w.heap.size w w' := by
  obtain ⟨W1, hW1, hb1, hn1, hn2, hn3, hsz⟩ := three_at w (.cells (wideA [p, 0, 0, 0]) 102) (.cells (wideA [0, 0, 0, 0]) 102) (.cells (wideA [0, 0, 0, 0]) 102)
  obtain ⟨B, hBe⟩ : ∃ B, B = w.heap.size := ⟨_, rfl⟩
  obtain ⟨B1, h1⟩ : ∃ x, x = B + 1 := ⟨_, rfl⟩
  obtain ⟨B2, h2⟩ : ∃ x, x = B1 + 1 := ⟨_, rfl⟩
  have e2 : B2 = B + 2 := by omega
  rw [← hBe, ← h1] at hn2
  rw [← hBe] at hn1
  rw [← hBe, ← e2] at hn3
  have HW1 := Lib.hid hW1
  have H1 := Lib.hid h1
  have H2 := Lib.hid h2
  have HBE := Lib.hid hBe
  clear hW1 hsz h1 h2 hBe e2
  go_enter Try.func65, Try.ntmps65
  go_wp2_with fail
  change Code.wp Try.prog _ _ _ (((w.alloc (.cells (wideA [p, 0, 0, 0]) 102)).alloc (.cells (wideA [0, 0, 0, 0]) 102)).alloc (.cells (wideA [0, 0, 0, 0]) 102))
  rw [HW1.out, ← HBE.out, ← H1.out, ← H2.out]
  clear HW1
  have hbB := hb1
  go_loopw [8] (fun i wr => ∃ (k : Nat), 1 ≤ k ∧ k ≤ 4 ∧ i = .int .i64 k ∧ Below w.heap.size w wr ∧ wr.heap[B]? = some (.cells (wideA [p, 0, 0, 0]) 102 (0, 0)) ∧ wr.heap[B1]? = some (.cells (wideA [0, 0, 0, 0]) 102 (0, 0)) ∧ wr.heap[B2]? = some (.cells (wideA (if k = 1 then [0, 0, 0, 0] else [0, p * 4294967296, 0, 0])) 102 (0, 0))) (fun i _ => 4 - (intOf i).toNat)
  case atStart => exact ⟨1, by omega, by omega, rfl, hb1, hn1, hn2, hn3⟩
  case round =>
    obtain ⟨k, hk1, hk4, rfl, hbw, h1, h2, h3⟩ := hrel
    clear hb1 hn1 hn2 hn3 hbB
    have HBW := Lib.hid hbw
    have HR0 := Lib.hid h1
    have HR1 := Lib.hid h2
    have hf := fun j => frozen_of_row (w := wr) B2 j _ _ h3
    obtain rfl | rfl | rfl | rfl : k = 1 ∨ k = 2 ∨ k = 3 ∨ k = 4 := by omega
    · rw [if_pos rfl] at h3
      have HR2 := Lib.hid h3
      have c0 : wr.cell? ⟨B, 0, none⟩ = some (.int .u64 (p : Int)) := (cell_of_row _ _ _ _ _ _ h1).trans rfl
      have c1 : wr.cell? ⟨B2, 1, none⟩ = some (.int .u64 0) := (cell_of_row _ _ _ _ _ _ h3).trans rfl
      have f1 := hf 1
      clear h1 h2 h3 hbw hf
      have hpb : (p : Int) * 4294967296 < 18446744073709551616 := by omega
      go_wp2_with fail
      refine ⟨⟨2, by omega, by omega, rfl, HBW.out.setCell (p := ⟨B2, 1, none⟩) (by show w.heap.size ≤ B2; rw [H2.out, H1.out, HBE.out]; omega) _, (heap_setCell_other _ _ _ _ (by show B ≠ B2; rw [H2.out, H1.out]; omega)).trans HR0.out, (heap_setCell_other _ _ _ _ (by show B1 ≠ B2; rw [H2.out]; omega)).trans HR1.out, ?_⟩, by decide⟩
      exact (heap_setCell_same _ _ _ _ _ _ HR2.out).trans (by rfl)
    · rw [if_neg (by omega)] at h3
      have HR2 := Lib.hid h3
      have c0 : wr.cell? ⟨B, 0, none⟩ = some (.int .u64 (p : Int)) := (cell_of_row _ _ _ _ _ _ h1).trans rfl
      have c1 : wr.cell? ⟨B, 1, none⟩ = some (.int .u64 0) := (cell_of_row _ _ _ _ _ _ h1).trans rfl
      have c2 : wr.cell? ⟨B2, 2, none⟩ = some (.int .u64 0) := (cell_of_row _ _ _ _ _ _ h3).trans rfl
      have f2 := hf 2
      have hself : wr.setCell ⟨B2, 2, none⟩ (.int .u64 0) = wr := (setCell_eq_setRow _ _ _ _ _ _ _ h3).trans (setRow_self _ _ _ _ _ h3)
      clear h1 h2 h3 hbw hf
      go_wp2_with fail
      have hmix : Try.prog.follows Departure.mixedOrders = true := by kernel_rfl
      have hdiv : (p : Int) / 4294967296 = 0 := by omega
      have hor : bits .or .u64 0 0 = 0 := by decide
      go_region_with (fail)
      all_goals go_wp2_with fail
      all_goals exact ⟨⟨3, by omega, by omega, rfl, HBW.out.drew, HR0.out, HR1.out, HR2.out⟩, by decide⟩
    · rw [if_neg (by omega)] at h3
      have HR2 := Lib.hid h3
      have c0 : wr.cell? ⟨B, 1, none⟩ = some (.int .u64 0) := (cell_of_row _ _ _ _ _ _ h1).trans rfl
      have c1 : wr.cell? ⟨B, 2, none⟩ = some (.int .u64 0) := (cell_of_row _ _ _ _ _ _ h1).trans rfl
      have c2 : wr.cell? ⟨B2, 3, none⟩ = some (.int .u64 0) := (cell_of_row _ _ _ _ _ _ h3).trans rfl
      have f2 := hf 3
      have hself : wr.setCell ⟨B2, 3, none⟩ (.int .u64 0) = wr := (setCell_eq_setRow _ _ _ _ _ _ _ h3).trans (setRow_self _ _ _ _ _ h3)
      clear h1 h2 h3 hbw hf
      go_wp2_with fail
      have hmix : Try.prog.follows Departure.mixedOrders = true := by kernel_rfl
      have hor : bits .or .u64 0 0 = 0 := by decide
      go_region_with (fail)
      all_goals go_wp2_with fail
      all_goals exact ⟨⟨4, by omega, by omega, rfl, HBW.out.drew, HR0.out, HR1.out, HR2.out⟩, by decide⟩
    · rw [if_neg (by omega)] at h3
      have HR2 := Lib.hid h3
      clear h1 h2 h3 hbw hf
      go_wp2_with (first | ((with_reducible refine wpList_load_row ?_ 102 (.tmp 5) ?_ B2 ?_ 102 _ (0, 0) _ HR2.out Try.underlying102 ?_ ?_ ?_); (next => rfl); (next => rfl); (next => rfl); (next => rfl); (next => kernel_rfl)) | ((with_reducible refine wpList_store_row ?_ 102 (.tmp 4) (.tmp 50) ?_ B1 (wideA [0, p * 4294967296, 0, 0]) ?_ ?_ 102 _ HR1.out ?_ ?_ ?_ ?_);  (next => rfl); (next => rfl); (next => rfl); (next => rfl); (next => kernel_rfl); (next => rfl); (next => exact all_wide _)))
      have hrow : (wr.setRow B1 (wideA [0, p * 4294967296, 0, 0])).heap[B1]? = some (.cells (wideA [0, p * 4294967296, 0, 0]) 102 (0, 0)) := setRow_heap _ _ _ _ _ _ HR1.out
      exact bodyPost_ret (results_cell_row rfl _ _ B1 102 (wideA [0, p * 4294967296, 0, 0]) (0, 0) _ rfl hrow Try.underlying102 rfl (by kernel_rfl)) rfl ⟨rfl, below_setRow HBW.out (by rw [H1.out, HBE.out]; omega) _⟩
theorem wideN_small (p : Nat) (hp : p < 18446744073709551616) : wideN p = .agg (wideA [p, 0, 0, 0]) := by
  have h := digs_val [p, 0, 0, 0] (by simp; exact hp)
  have e : val [p, 0, 0, 0] = p := by simp [val]
  rw [e] at h
  unfold wideN
  rw [show digs 4 p = [p, 0, 0, 0] from h]
theorem wideN_64 (p : Nat) (hp : p < 4294967296) : wideN (p * 18446744073709551616) = .agg (wideA [0, p, 0, 0]) := by
  have h := digs_val [0, p, 0, 0] (by simp; omega)
  have e : val [0, p, 0, 0] = p * 18446744073709551616 := by simp [val]; omega
  rw [e] at h
  unfold wideN
  rw [show digs 4 (p * 18446744073709551616) = [0, p, 0, 0] from h]
theorem wideN_96 (p : Nat) (hp : p < 4294967296) : wideN (p * 79228162514264337593543950336) = .agg (wideA [0, p * 4294967296, 0, 0]) := by
  have h := digs_val [0, p * 4294967296, 0, 0] (by simp; omega)
  have e : val [0, p * 4294967296, 0, 0] = p * 79228162514264337593543950336 := by simp [val]; omega
  rw [e] at h
  unfold wideN
  rw [show digs 4 (p * 79228162514264337593543950336) = [0, p * 4294967296, 0, 0] from h]
theorem ofN_any (n : Nat) (hn : n < 18446744073709551616) (w : World) : Calls Try.prog 64 #[V64 n] w fun e w' => e = .returned (wideN n) ∧ Below w.heap.size w w' := by
  rw [wideN_small n hn]; exact wof_any n w
theorem left64N (p : Nat) (hp : p < 4294967296) (w : World) :
    Calls Try.prog 65 #[wideN p, .int .i64 64] w fun e w' => e = .returned (wideN (p * 18446744073709551616)) ∧ Below w.heap.size w w' := by
  rw [wideN_small p (by omega), wideN_64 p hp]; exact left64_any p hp w
theorem left96N (p : Nat) (hp : p < 4294967296) (w : World) :
    Calls Try.prog 65 #[wideN p, .int .i64 96] w fun e w' => e = .returned (wideN (p * 79228162514264337593543950336)) ∧ Below w.heap.size w w' := by
  rw [wideN_small p (by omega), wideN_96 p hp]; exact left96_any p hp w
end Go.Proofs.Ytdecbimklomdjaa
