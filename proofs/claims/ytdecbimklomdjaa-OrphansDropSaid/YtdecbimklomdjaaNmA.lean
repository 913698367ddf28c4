/- sha's Len, Twice, Short; Write, Len, End and Copy on none; End of a Sum of zeros. -/
import Derived.Test.YtdecbimklomdjaaRoots
namespace Go.Proofs.Ytdecbimklomdjaa
open Go Go.RowKit Go.Shelf
set_option maxRecDepth 100000 in
theorem len_any (b : Nat) (m : List UInt8) (w : World) (hS : SumAt w b m) (hz : Sha.mid m ≠ Sha.St.zero) :
    Calls Try.prog 25 #[.pointer (some ⟨b, 0, none⟩)] w fun e w' => e = .returned (.int .u64 (m.length : Int)) ∧ w = w' := by
  obtain ⟨r, hs, g, hg, hrest⟩ := hS
  have HS := Lib.hid hs
  have HZ := Lib.hid (zero_ne hz)
  have hc9 : w.cell? ⟨b, 9, none⟩ = some (.int .u64 (m.length : Int)) := cell_of_row _ _ _ _ _ _ hs
  clear hs hg hrest hz
  go_enter Try.func25, Try.ntmps25
  go_wp2_with (go_at_call 75; refine (none_any b (Sha.mid m).list rfl _ _ _ HS.out).mono ?_; rintro e w' ⟨rfl, rfl⟩; rw [HZ.out])
  go_ret
  exact ⟨rfl, rfl⟩
theorem len_nil (w : World) : Calls Try.prog 25 #[.pointer none] w fun e w' => e = .returned (.int .u64 0) ∧ w = w' := by
  go_enter Try.func25, Try.ntmps25
  go_wp2_with (go_at_call 75; refine (none_nil _).mono ?_; rintro e w' ⟨rfl, rfl⟩)
  go_ret
  exact ⟨rfl, rfl⟩
theorem copy_nil (w : World) : Calls Try.prog 21 #[.pointer none] w fun e w' => e = .returned (.pointer none) ∧ w = w' := by
  go_enter Try.func21, Try.ntmps21
  go_wp2_with (go_at_call 75; refine (none_nil _).mono ?_; rintro e w' ⟨rfl, rfl⟩)
  go_ret
  exact ⟨rfl, rfl⟩
set_option maxRecDepth 100000 in
theorem write_nil (v : Value) (w : World) : Calls Try.prog 22 #[.pointer none, v] w fun e w' => e = .returned (.pointer none) ∧ Below w.heap.size w w' := by
  refine calls_of_wp_marks Try.func22 rfl ?_
  simp only [Try.ntmps22, List.size_toArray, List.length_cons, List.length_nil, Nat.reduceAdd, Nat.reduceSub, Array.replicate_succ, Array.replicate_zero, List.push_toArray, List.append_toArray, List.nil_append, List.cons_append]
  go_wp2_with fail
  refine wp_scope_straight ?_
  go_wp2_with (go_at_call 75; refine (none_nil _).mono ?_; rintro e w' ⟨rfl, rfl⟩)
  rw [Exit.noGoto_ret]
  refine leave_bare (.inr rfl) rfl (v := .pointer none) ?_ ⟨rfl, (Below.refl _ _).alloc (Nat.le_refl _) _⟩
  simp [results, Try.results22, go_sem]
/-- End of a Sum whose words are all zero. -/
theorem end_raw (b : Nat) (l : List Sha.W) (hl : l.length = 8) (hz : (l == zeroW 8) = true) (r : Value) (n : Int) (w : World) (hs : w.heap[b]? = some (.cells (sumA l r n) 113 (0, 0))) :
    Calls Try.prog 23 #[.pointer (some ⟨b, 0, none⟩)] w fun e w' => e = .returned (.agg (bytesA (Sha.zeros 32))) ∧ Below w.heap.size w w' := by
  have hbs : b < w.heap.size := (Array.getElem?_eq_some_iff.1 hs).1
  have HS := Lib.hid hs
  have HZ := Lib.hid hz
  clear hs hz
  go_enter Try.func23, Try.ntmps23
  go_wp2_with fail
  obtain ⟨W1, hW1⟩ : ∃ W1, (w.alloc (.cells (bytesA (Sha.zeros 32)) 28)).alloc (.cells (bytesA (Sha.zeros 32)) 28) = W1 := ⟨_, rfl⟩
  have hb1 : Below w.heap.size w W1 := by rw [← hW1]; exact ((Below.refl _ _).alloc (Nat.le_refl _) _).alloc (by simp) _
  have hn1 : W1.heap[w.heap.size]? = some (.cells (bytesA (Sha.zeros 32)) 28 (0, 0)) := by rw [← hW1]; exact heap_alloc2_old _ _ _
  have hn2 : W1.heap[w.heap.size + 1]? = some (.cells (bytesA (Sha.zeros 32)) 28 (0, 0)) := by rw [← hW1]; exact heap_alloc2_new _ _ _
  have HS1 := Lib.hid (block_below hb1 HS.out)
  change Calls Try.prog 75 _ ((w.alloc (.cells (bytesA (Sha.zeros 32)) 28)).alloc (.cells (bytesA (Sha.zeros 32)) 28)) _
  rw [hW1]
  have HB1 := Lib.hid hb1
  have HN1 := Lib.hid hn1
  have HN2 := Lib.hid hn2
  clear hb1 hn1 hn2 hW1
  refine (none_any b l hl _ _ _ HS1.out).mono ?_
  rintro e w' ⟨rfl, rfl⟩
  rw [HZ.out]
  go_wp2_with (first | ((with_reducible refine wpList_load_row ?_ 28 (.tmp 3) ?_ (w.heap.size + 1) ?_ 28 _ (0, 0) _ HN2.out Try.underlying28 ?_ ?_ ?_); (next => rfl); (next => rfl); (next => rfl); (next => rfl); (next => kernel_rfl)) | ((with_reducible refine wpList_store_row ?_ 28 (.tmp 2) (.tmp 11) ?_ w.heap.size (bytesA (Sha.zeros 32)) ?_ ?_ 28 _ HN1.out ?_ ?_ ?_ ?_);  (next => rfl); (next => rfl); (next => rfl); (next => rfl); (next => kernel_rfl); (next => rfl); (next => exact all_bytes _)))
  exact bodyPost_ret (results_cell_row rfl _ _ w.heap.size 28 (bytesA (Sha.zeros 32)) (0, 0) _ rfl (setRow_heap _ _ _ _ _ _ HN1.out) Try.underlying28 rfl (by kernel_rfl)) rfl ⟨rfl, below_setRow HB1.out (Nat.le_refl _) _⟩
theorem end_nil (w : World) : Calls Try.prog 23 #[.pointer none] w fun e w' => e = .returned (.agg (bytesA (Sha.zeros 32))) ∧ Below w.heap.size w w' := by
  go_enter Try.func23, Try.ntmps23
  go_wp2_with fail
  obtain ⟨W1, hW1⟩ : ∃ W1, (w.alloc (.cells (bytesA (Sha.zeros 32)) 28)).alloc (.cells (bytesA (Sha.zeros 32)) 28) = W1 := ⟨_, rfl⟩
  have hb1 : Below w.heap.size w W1 := by rw [← hW1]; exact ((Below.refl _ _).alloc (Nat.le_refl _) _).alloc (by simp) _
  have hn1 : W1.heap[w.heap.size]? = some (.cells (bytesA (Sha.zeros 32)) 28 (0, 0)) := by rw [← hW1]; exact heap_alloc2_old _ _ _
  have hn2 : W1.heap[w.heap.size + 1]? = some (.cells (bytesA (Sha.zeros 32)) 28 (0, 0)) := by rw [← hW1]; exact heap_alloc2_new _ _ _
  change Calls Try.prog 75 _ ((w.alloc (.cells (bytesA (Sha.zeros 32)) 28)).alloc (.cells (bytesA (Sha.zeros 32)) 28)) _
  rw [hW1]
  have HB1 := Lib.hid hb1
  have HN1 := Lib.hid hn1
  have HN2 := Lib.hid hn2
  clear hb1 hn1 hn2 hW1
  refine (none_nil _).mono ?_
  rintro e w' ⟨rfl, rfl⟩
  go_wp2_with (first | ((with_reducible refine wpList_load_row ?_ 28 (.tmp 3) ?_ (w.heap.size + 1) ?_ 28 _ (0, 0) _ HN2.out Try.underlying28 ?_ ?_ ?_); (next => rfl); (next => rfl); (next => rfl); (next => rfl); (next => kernel_rfl)) | ((with_reducible refine wpList_store_row ?_ 28 (.tmp 2) (.tmp 11) ?_ w.heap.size (bytesA (Sha.zeros 32)) ?_ ?_ 28 _ HN1.out ?_ ?_ ?_ ?_);  (next => rfl); (next => rfl); (next => rfl); (next => rfl); (next => kernel_rfl); (next => rfl); (next => exact all_bytes _)))
  exact bodyPost_ret (results_cell_row rfl _ _ w.heap.size 28 (bytesA (Sha.zeros 32)) (0, 0) _ rfl (setRow_heap _ _ _ _ _ _ HN1.out) Try.underlying28 rfl (by kernel_rfl)) rfl ⟨rfl, below_setRow HB1.out (Nat.le_refl _) _⟩
/-- The double hash. -/
def twice (l : List UInt8) : List UInt8 := Sha.hash (Sha.hash l)
theorem twice_length (l : List UInt8) : (twice l).length = 32 := hash_length _
set_option maxRecDepth 100000 in
theorem twice_any (v : Value) (l : List UInt8) (w : World) (hv : BytesAt w v l) (hl : l.length ≤ 549755813888) :
    Calls Try.prog 29 #[v] w fun e w' => e = .returned (.agg (bytesA (twice l))) ∧ Below w.heap.size w w' := by
  have HV := Lib.hid hv
  clear hv
  go_enter Try.func29, Try.ntmps29
  go_wp2_with fail
  obtain ⟨W1, hW1⟩ : ∃ W1, w.alloc (.cells (bytesA (Sha.zeros 32)) 28) = W1 := ⟨_, rfl⟩
  have hb1 : Below w.heap.size w W1 := by rw [← hW1]; exact (Below.refl _ _).alloc (Nat.le_refl _) _
  have hn1 : W1.heap[w.heap.size]? = some (.cells (bytesA (Sha.zeros 32)) 28 (0, 0)) := by rw [← hW1]; exact heap_alloc_new _ _
  change Calls Try.prog 27 _ (w.alloc (.cells (bytesA (Sha.zeros 32)) 28)) _
  rw [hW1]
  have HB1 := Lib.hid hb1
  have HN1 := Lib.hid hn1
  clear hb1 hn1 hW1
  refine (of_any v l W1 (HV.out.below HB1.out) hl).mono ?_
  rintro e W2 ⟨rfl, hb2⟩
  have HB2 := Lib.hid (HB1.out.trans (hb2.mono HB1.out.size))
  have HN2 := Lib.hid (block_below hb2 HN1.out)
  clear hb2
  go_wp2_with ((with_reducible refine wpList_store_row ?_ 28 (.tmp 3) (.tmp 5) ?_ W2.heap.size (bytesA (Sha.hash l)) ?_ ?_ 28 _ (heap_alloc_new W2 _) ?_ ?_ ?_ ?_);  (next => rfl); (next => rfl); (next => rfl); (next => rfl); (next => rw [size_bytesA, hash_length]; kernel_rfl); (next => rw [size_bytesA, hash_length]; rfl); (next => exact all_bytes _); rw [World.setRow_alloc_new])
  obtain ⟨W3, hW3⟩ : ∃ W3, W2.alloc (.cells (bytesA (Sha.hash l)) 28) = W3 := ⟨_, rfl⟩
  have hb3 : Below W2.heap.size W2 W3 := by rw [← hW3]; exact (Below.refl _ _).alloc (Nat.le_refl _) _
  have hn3 : W3.heap[W2.heap.size]? = some (.cells (bytesA (Sha.hash l)) 28 (0, 0)) := by rw [← hW3]; exact heap_alloc_new _ _
  rw [hW3]
  have HB3 := Lib.hid (HB2.out.trans (hb3.mono HB2.out.size))
  have HN3 := Lib.hid (block_below hb3 HN2.out)
  refine (of_any _ (Sha.hash l) W3 (row32 hn3 (hash_length l)) (by rw [hash_length]; omega)).mono ?_
  rintro e W4 ⟨rfl, hb4⟩
  have HB4 := Lib.hid (HB3.out.trans (hb4.mono HB3.out.size))
  have HN4 := Lib.hid (block_below hb4 HN3.out)
  clear hb3 hn3 hb4 hW3
  go_wp2_with ((with_reducible refine wpList_store_row ?_ 28 (.tmp 2) (.tmp 7) ?_ w.heap.size (bytesA (twice l)) ?_ ?_ 28 _ HN4.out ?_ ?_ ?_ ?_);  (next => rfl); (next => rfl); (next => rfl); (next => rfl); (next => rw [size_bytesA, twice_length]; kernel_rfl); (next => rw [size_bytesA, size_bytesA, twice_length]; rfl); (next => exact all_bytes _))
  exact bodyPost_ret (results_cell_row rfl _ _ w.heap.size 28 (bytesA (twice l)) (0, 0) _ rfl (setRow_heap _ _ _ _ _ _ HN4.out) Try.underlying28 rfl (by rw [size_bytesA, twice_length]; kernel_rfl)) rfl ⟨rfl, below_setRow HB4.out (Nat.le_refl _) _⟩
set_option maxRecDepth 100000 in
theorem short_any (v : Value) (l : List UInt8) (w : World) (hv : BytesAt w v l) (hl : l.length ≤ 549755813888) :
    Calls Try.prog 28 #[v] w fun e w' => ∃ a c, e = .returned (.slice a 20 c) ∧ BytesAt w' (.slice a 20 c) ((twice l).take 20) ∧ Below w.heap.size w w' := by
  have HV := Lib.hid hv
  clear hv
  go_enter Try.func28, Try.ntmps28
  go_wp2_with fail
  refine (twice_any v l w HV.out hl).mono ?_
  rintro e W2 ⟨rfl, hb2⟩
  have HB2 := Lib.hid hb2
  clear hb2
  go_wp2_with ((with_reducible refine wpList_store_row ?_ 28 (.tmp 3) (.tmp 5) ?_ W2.heap.size (bytesA (twice l)) ?_ ?_ 28 _ (heap_alloc_new W2 _) ?_ ?_ ?_ ?_);  (next => rfl); (next => rfl); (next => rfl); (next => rfl); (next => rw [size_bytesA, twice_length]; kernel_rfl); (next => rw [size_bytesA, twice_length]; rfl); (next => exact all_bytes _); rw [World.setRow_alloc_new])
  obtain ⟨W3, hW3⟩ : ∃ W3, W2.alloc (.cells (bytesA (twice l)) 28) = W3 := ⟨_, rfl⟩
  have hb3 : Below W2.heap.size W2 W3 := by rw [← hW3]; exact (Below.refl _ _).alloc (Nat.le_refl _) _
  have hn3 : W3.heap[W2.heap.size]? = some (.cells (bytesA (twice l)) 28 (0, 0)) := by rw [← hW3]; exact heap_alloc_new _ _
  rw [hW3]
  have HB3 := Lib.hid (HB2.out.trans (hb3.mono HB2.out.size))
  have hl20 : ((twice l).take 20).length = 20 := by rw [List.length_take, twice_length]; rfl
  have hv3 : BytesAt W3 (.slice (some ⟨W2.heap.size, 0, none⟩) 20 32) ((twice l).take 20) := by
    refine .inr ⟨W2.heap.size, 0, 32, by rw [hl20], by omega, by unfold maxLen; omega, (Array.getElem?_eq_some_iff.1 hn3).1, ?_⟩
    rw [List.map_take]
    exact rangeAt_take (row_range hn3) 20
  refine (clone_any _ _ W3 hv3 (by omega)).mono ?_
  rintro e W4 ⟨v', rfl, hown, hb4⟩
  have HB4 := Lib.hid (HB3.out.trans (hb4.mono HB3.out.size))
  have hv4 : BytesAt W4 v' ((twice l).take 20) := BytesAt.of_owns hown
  obtain ⟨a, c, rfl⟩ := hv4.parts
  rw [hl20] at hv4
  rw [hl20]
  have HV4 := Lib.hid hv4
  clear hb3 hn3 hb4 hW3 hv3 hv4 hown
  go_wp2_with fail
  go_ret
  exact ⟨a, c, rfl, HV4.out, HB4.out⟩
end Go.Proofs.Ytdecbimklomdjaa
