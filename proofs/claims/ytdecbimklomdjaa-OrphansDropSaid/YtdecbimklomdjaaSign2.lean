/- purser/sign: Sign, Is. -/
import Derived.Test.YtdecbimklomdjaaSign1
import Derived.Laws.CopyOwn
import Derived.Deep.RegionLaw
import Derived.OwnWalk
namespace Go.Proofs.Ytdecbimklomdjaa
open Go Go.RowKit Go.Shelf
theorem all_v8 (l : List UInt8) : ∀ v ∈ l.map V8, v.oneCell' = true := by
  intro v hv
  obtain ⟨x, _, rfl⟩ := List.mem_map.1 hv
  rfl
theorem src_of {w w' : World} {g b : Nat} {l : List UInt8} {t : TypeId} (hlt : b < w.heap.size) (hg : w.grownBy w' none) (hb : w.heap[b]? = some (.cells (bytesA l) t (0, 0))) :
    0 < (l.map V8).length → (some (⟨g, 0, none⟩ : Addr)) = some ⟨g, 0, none⟩ ∧ ∃ ad, (some (⟨b, 0, none⟩ : Addr)) = some ad ∧ ∀ j v, (l.map V8)[j]? = some v → w'.cell? (ad.add j) = some v :=
  fun _ => ⟨rfl, _, rfl, cells_at (row_range ((hg.block b hlt (by simp)).trans hb))⟩
theorem splice_two (s h : List UInt8) (hs : s.length = 32) (hh : h.length = 32) : (splice (splice ((Sha.zeros 64).map V8) 0 (s.map V8)) 32 (h.map V8)).toArray = bytesA (s ++ h) := by
  unfold splice bytesA Sha.zeros
  rw [List.map_append]
  congr 1
  simp only [List.take_zero, List.nil_append, Nat.zero_add, List.length_map, hs, hh, Nat.reduceAdd]
  rw [List.take_append_of_le_length (by simp [hs]), List.take_of_length_le (by simp [hs]), List.drop_of_length_le (by simp [hs]), List.append_nil]
theorem grown_none {w w' : World} (h : w.grownBy w' none) : Below w.heap.size w w' := below_of_grown h (by simp)
theorem made_row {w : World} {b : Nat} (h : w.ownsRow b 5 1 (.slice (some ⟨b, 0, none⟩) 64 64) 64 (madeCells (Value.int .u8 0).cells (64 * 1)).toList) : w.heap[b]? = some (.cells ((Sha.zeros 64).map V8).toArray 5 (0, 0)) := by
  rcases h.2 with ⟨h, _⟩ | ⟨g, cap, cur, hv, _, hg, hc, _, hs, ht⟩
  · cases h
  · injection hv with e1 e2 e3
    injection e1 with e1
    injection e1 with e1
    subst e1 e3
    rw [List.take_of_length_le (by simp [hs])] at ht
    rw [hg, show cur = ((Sha.zeros 64).map V8).toArray from Array.ext' (by rw [ht]; kernel_rfl)]
set_option maxRecDepth 100000 in
set_option maxHeartbeats 1000000 in
theorem sign_any (s d : List UInt8) (hs : s.length = 32) (hd : d.length = 32) (w : World) :
    Calls Try.prog 32 #[.agg (bytesA s), .agg (bytesA d)] w fun e w' => ∃ g, e = .returned (.slice (some ⟨g, 0, none⟩) 64 64) ∧ w.heap.size ≤ g ∧ w'.heap[g]? = some (.cells (bytesA (s ++ Sha.hash (s ++ d))) 5 (0, 0)) ∧ Below w.heap.size w w' := by
  go_enter Try.func32, Try.ntmps32
  obtain ⟨W1, hW1, hb1, hn1, hn2, hsz⟩ := two_new w (.cells (bytesA s) 28) (.cells (bytesA d) 28)
  have HN1 := Lib.hid hn1
  have HN2 := Lib.hid hn2
  have HB1 := Lib.hid hb1
  clear hn1 hn2 hb1
  go_wp2_with (first | ((try rw [hW1]); (with_reducible refine wpList_load_row ?_ 28 (.tmp 2) ?_ w.heap.size ?_ 28 _ (0, 0) _ HN1.out Try.underlying28 ?_ ?_ ?_); (next => rfl); (next => rfl); (next => rfl); (next => rfl); (next => rw [size_bytesA, hs]; kernel_rfl)) | ((with_reducible refine wpList_load_row ?_ 28 (.tmp 3) ?_ (w.heap.size + 1) ?_ 28 _ (0, 0) _ HN2.out Try.underlying28 ?_ ?_ ?_); (next => rfl); (next => rfl); (next => rfl); (next => rfl); (next => rw [size_bytesA, hd]; kernel_rfl)))
  refine (bound_any s d hs hd W1).mono ?_
  rintro e W2 ⟨rfl, hb2⟩
  have hs2 := hb2.size
  have HB2 := Lib.hid hb2
  clear hb2
  obtain ⟨W3, hW3⟩ : ∃ W3, W2.alloc (.cells (bytesA (Sha.hash (s ++ d))) 28) = W3 := ⟨_, rfl⟩
  have hb3 : Below W2.heap.size W2 W3 := by rw [← hW3]; exact (Below.refl _ _).alloc (Nat.le_refl _) _
  have hh3 : W3.heap[W2.heap.size]? = some (.cells (bytesA (Sha.hash (s ++ d))) 28 (0, 0)) := by rw [← hW3]; exact heap_alloc_new _ _
  have hs3 : W3.heap[w.heap.size]? = some (.cells (bytesA s) 28 (0, 0)) := (hb3.block _ (by omega)).trans ((HB2.out.block _ (by omega)).trans HN1.out)
  have hz3 : W3.heap.size = W2.heap.size + 1 := by rw [← hW3]; simp
  have HB3 : Hid (Below w.heap.size w W3) := Lib.hid (HB1.out.trans ((HB2.out.mono (by omega)).trans (hb3.mono (by omega))))
  have HH3 := Lib.hid hh3
  have HS3 := Lib.hid hs3
  have HSZ : Hid ((Try.prog.info? 5).map (·.size) = some 1) := by unfold Hid; kernel_rfl
  obtain ⟨i0, hi, hz0, hz1, hz2⟩ := info_parts info5
  have HI := Lib.hid hi
  have H0 := Lib.hid hz0
  have H1 := Lib.hid hz1
  have H2 : Hid (i0.bytes * 64 ≤ 281474976710656) := Lib.hid (by rw [hz2]; omega)
  have HZ3 := Lib.hid hz3
  have HN32 : Hid ((s.map V8).length = Nat.min 32 64) := Lib.hid (by simp [hs])
  have HNH : Hid (((Sha.hash (s ++ d)).map V8).length = Nat.min 32 32) := Lib.hid (by simp [hash_length])
  have HFIT : Hid (0 + (s.map V8).length ≤ ((Sha.zeros 64).map V8).length) := Lib.hid (by simp [hs, Sha.zeros])
  have HZW : Hid (w.heap.size < W3.heap.size) := Lib.hid (by omega)
  clear hb3 hh3 hs3 hi hz0 hz1 hz2 hz3
  go_wp2_with (first | ((with_reducible refine wpList_store_row ?_ 28 (.tmp 5) (.tmp 9) ?_ W2.heap.size (bytesA (Sha.hash (s ++ d))) ?_ ?_ 28 _ (heap_alloc_new W2 _) ?_ ?_ ?_ ?_);  (next => rfl); (next => rfl); (next => rfl); (next => rfl); (next => rw [size_bytesA, hash_length]; kernel_rfl); (next => rw [size_bytesA, hash_length]; rfl); (next => exact all_bytes _); rw [World.setRow_alloc_new, hW3]) | ((with_reducible refine wpList_make_full _ ?_ (.const (.int .i64 64)) (.const (.int .i64 64)) 25 ?_ W3.heap.size 5 i0 (.int .u8 0) 1 Try.underlying25 HI.out H0.out H1.out .i64 .i64 64 64 64 ?_ ?_ rfl rfl H2.out (by decide) (Nat.le_refl _) ?_); (next => rfl); (next => rfl); (next => rfl); (next => rfl); intro W4 hown4 hg4; have H4 := Lib.hid (made_row hown4); have HG4 := Lib.hid hg4; clear hown4 hg4) | ((with_reducible refine wpList_copy_splice ?_ (.tmp 11) (.tmp 12) 25 25 ?_ 5 Try.underlying25 HSZ.out (some ⟨W3.heap.size, 0, none⟩) (some ⟨w.heap.size, 0, none⟩) 64 64 32 32 ?_ ?_ W3.heap.size 0 ((Sha.zeros 64).map V8) 5 H4.out (s.map V8) HN32.out (src_of HZW.out HG4.out HS3.out) HFIT.out (all_v8 s) W3.heap.size W4 (Below.refl _ _) (Nat.le_refl _) ?_); (next => rfl); (next => rfl); (next => rfl); (next => rfl); intro W5 h5 hb5))
  have hh5 : W5.heap[W2.heap.size]? = some (.cells (bytesA (Sha.hash (s ++ d))) 28 (0, 0)) := (hb5.block _ (by have := HZ3.out; omega)).trans (((grown_none HG4.out).block _ (by have := HZ3.out; omega)).trans HH3.out)
  obtain ⟨c1, hc1⟩ : ∃ c1, c1 = splice ((Sha.zeros 64).map V8) 0 (s.map V8) := ⟨_, rfl⟩
  rw [← hc1] at h5
  have hlc : c1.length = 64 := by rw [hc1, length_splice _ _ _ HFIT.out]; simp [Sha.zeros]
  have HC1 := Lib.hid hc1
  have HH5 := Lib.hid hh5
  have HFIT2 : Hid (32 + ((Sha.hash (s ++ d)).map V8).length ≤ c1.length) := Lib.hid (by simp [hlc, hash_length])
  have HB5 := Lib.hid hb5
  have hmix : Try.prog.follows Departure.mixedOrders = true := by kernel_rfl
  clear hc1 hh5 hb5 hlc
  go_region_law (refine step_copy_splice rfl (.tmp 15) (.tmp 16) 25 25 rfl 5 Try.underlying25 HSZ.out (some ⟨W3.heap.size, 32, none⟩) (some ⟨W2.heap.size, 0, none⟩) 32 32 32 32 rfl rfl W3.heap.size 32 c1 5 h5 ((Sha.hash (s ++ d)).map V8) HNH.out (fun _ => ⟨rfl, _, rfl, cells_at (row_range HH5.out)⟩) HFIT2.out (all_v8 _) W3.heap.size W5 ⟨rfl, rfl, rfl, Nat.le_refl _, fun _ _ => rfl⟩ (Nat.le_refl _) ?_; intro W6 h6 hb6)
  go_wp2_with fail
  go_ret
  have h3 := HB3.out.size
  refine ⟨W3.heap.size, rfl, h3, ?_, HB3.out.trans (((grown_none HG4.out).mono h3).trans ((HB5.out.mono h3).trans (hb6.mono h3)))⟩
  rw [← splice_two s (Sha.hash (s ++ d)) hs (hash_length _), ← HC1.out]
  exact h6.out
end Go.Proofs.Ytdecbimklomdjaa
