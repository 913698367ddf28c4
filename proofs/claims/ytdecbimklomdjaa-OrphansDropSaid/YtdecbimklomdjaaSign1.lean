/- purser/sign: Public, bound, Sign, Is. -/
import Derived.Test.YtdecbimklomdjaaEnd
import Derived.Deep.RegionHeld3
import Derived.Stop.BytesEq
import Derived.ArgAppend
import Derived.Test.YtdecbimklomdjaaMono
namespace Go.Proofs.Ytdecbimklomdjaa
open Go Go.RowKit Go.Shelf
theorem bytesAt_row {w : World} {b : Nat} {l : List UInt8} {t : TypeId} {fr : Nat × Nat} (h : w.heap[b]? = some (.cells (bytesA l) t fr)) (c : Nat) (hc : l.length ≤ c) (hm : c ≤ maxLen) : BytesAt w (.slice (some ⟨b, 0, none⟩) l.length c) l :=
  .inr ⟨b, 0, c, rfl, hc, hm, (Array.getElem?_eq_some_iff.1 h).1, rangeAt_of_row h 0 _ (fun j v hv => by rw [Nat.zero_add]; unfold bytesA; rw [List.getElem?_toArray]; exact hv)⟩
theorem two_new (w : World) (A B : Obj) : ∃ W1, (w.alloc A).alloc B = W1 ∧ Below w.heap.size w W1 ∧ W1.heap[w.heap.size]? = some A ∧ W1.heap[w.heap.size + 1]? = some B ∧ W1.heap.size = w.heap.size + 2 :=
  ⟨_, rfl, ((Below.refl _ _).alloc (Nat.le_refl _) _).alloc (by simp) _, heap_alloc2_old _ _ _, heap_alloc2_new _ _ _, by simp⟩
theorem three_at (w : World) (A B C : Obj) : ∃ W1, ((w.alloc A).alloc B).alloc C = W1 ∧ Below w.heap.size w W1 ∧ W1.heap[w.heap.size]? = some A ∧ W1.heap[w.heap.size + 1]? = some B ∧ W1.heap[w.heap.size + 2]? = some C ∧ W1.heap.size = w.heap.size + 3 :=
  ⟨_, rfl, (((Below.refl _ _).alloc (Nat.le_refl _) _).alloc (by simp) _).alloc (by simp; omega) _, (three_new w A B C).1, (three_new w A B C).2.1, (three_new w A B C).2.2.1, (three_new w A B C).2.2.2⟩
theorem row32 {w : World} {b : Nat} {l : List UInt8} {t : TypeId} {fr : Nat × Nat} (h : w.heap[b]? = some (.cells (bytesA l) t fr)) (hl : l.length = 32) : BytesAt w (.slice (some ⟨b, 0, none⟩) 32 32) l := by
  have := bytesAt_row h 32 (by omega) (by unfold maxLen; omega)
  rwa [hl] at this
theorem cells_at {w : World} {b o : Nat} {l : List Value} (h : w.rangeAt b o l) : ∀ j u, l[j]? = some u → w.cell? ((⟨b, o, none⟩ : Addr).add j) = some u := fun j u hu => by
  have hadd : (⟨b, o, none⟩ : Addr).add j = ⟨b, o + j, none⟩ := by unfold Addr.add; split <;> simp_all
  rw [hadd]; exact h j u hu
theorem row_range {w : World} {b : Nat} {l : List UInt8} {t : TypeId} {fr : Nat × Nat} (h : w.heap[b]? = some (.cells (bytesA l) t fr)) : w.rangeAt b 0 (l.map V8) :=
  rangeAt_of_row h 0 _ (fun j v hv => by rw [Nat.zero_add]; unfold bytesA; rw [List.getElem?_toArray]; exact hv)
set_option maxRecDepth 100000 in
theorem public_any (s : List UInt8) (hs : s.length = 32) (w : World) :
    Calls Try.prog 33 #[.agg (bytesA s)] w fun e w' => e = .returned (.agg (bytesA (Sha.hash s))) ∧ Below w.heap.size w w' := by
  go_enter Try.func33, Try.ntmps33
  go_wp2_with fail
  obtain ⟨W1, hW1, hb1, hn1, hn2, hsz⟩ := two_new w (.cells (bytesA s) 28) (.cells (bytesA (Sha.zeros 32)) 28)
  change Calls Try.prog 27 _ ((w.alloc (.cells (bytesA s) 28)).alloc (.cells (bytesA (Sha.zeros 32)) 28)) _
  rw [hW1]
  refine (of_any _ s W1 (row32 hn1 hs) (by omega)).mono ?_
  rintro e w' ⟨rfl, hb2⟩
  have hn4 : w'.heap[w.heap.size + 1]? = _ := (hb2.block _ (by omega)).trans hn2
  have HN4 := Lib.hid hn4
  have HB4 := Lib.hid (hb1.trans (hb2.mono (by omega)))
  clear hn4 hb2 hn1 hn2 hW1 hb1
  go_wp2_with ((with_reducible refine wpList_store_row ?_ 28 (.tmp 2) (.tmp 4) ?_ (w.heap.size + 1) (bytesA (Sha.hash s)) ?_ ?_ 28 _ HN4.out ?_ ?_ ?_ ?_);  (next => rfl); (next => rfl); (next => rfl); (next => rfl); (next => rw [size_bytesA, hash_length]; kernel_rfl); (next => rw [size_bytesA, size_bytesA, hash_length]; rfl); (next => exact all_bytes _))
  exact bodyPost_ret (results_cell_row rfl _ _ (w.heap.size + 1) 28 (bytesA (Sha.hash s)) (0, 0) _ rfl (setRow_heap _ _ _ _ _ _ HN4.out) Try.underlying28 rfl (by rw [size_bytesA, hash_length]; kernel_rfl)) rfl ⟨rfl, below_setRow HB4.out (by omega) _⟩

/-- What the operations of bound's region 1 yield. -/
def phiB (B : Nat) (l : List UInt8) : Nat → Value → World → Prop
  | 0, v, _ => v = .slice (some ⟨B, 0, none⟩) 32 32
  | 1, v, _ => v = .slice (some ⟨B + 1, 0, none⟩) 32 32
  | 2, v, w => BytesAt w v l
  | _, v, _ => v = .agg (bytesA (Sha.hash l))
theorem phiB_stable (B : Nat) (l : List UInt8) (i : Nat) (v : Value) (w w' : World) (h : phiB B l i v w) (hb : Below w.heap.size w w') : phiB B l i v w' := by
  unfold phiB at *
  split at h
  · exact h
  · exact h
  · exact h.below hb
  · exact h
set_option maxRecDepth 100000 in
set_option maxHeartbeats 1000000 in
theorem bound_any (s d : List UInt8) (hs : s.length = 32) (hd : d.length = 32) (w : World) :
    Calls Try.prog 81 #[.agg (bytesA s), .agg (bytesA d)] w fun e w' => e = .returned (.agg (bytesA (Sha.hash (s ++ d)))) ∧ Below w.heap.size w w' := by
  go_enter Try.func81, Try.ntmps81
  go_wp2_with fail
  go_outline
  obtain ⟨W1, hW1, hb1, hn1, hn2, hn3, hsz⟩ := three_at w (.cells (bytesA s) 28) (.cells (bytesA d) 28) (.cells (bytesA (Sha.zeros 32)) 28)
  change Code.wp Try.prog _ _ _ (((w.alloc (.cells (bytesA s) 28)).alloc (.cells (bytesA d) 28)).alloc (.cells (bytesA (Sha.zeros 32)) 28))
  rw [hW1]
  obtain ⟨i0, hi, hz0, hz1, hz2⟩ := info_parts info5
  refine wp_region_mono 4 (by kernel_rfl) (by kernel_rfl) (phiB w.heap.size (s ++ d)) (phiB_stable _ _) ⟨?_, ?_, ?_, ?_, trivial⟩ ?_
  · intro vals a w1 hb hs' hd'
    have e : a.eval (.tmp 2) = .pointer (some ⟨w.heap.size, 0, none⟩) := hs' 2 (by decide)
    have ec : a.eval (.const (.int .i64 32)) = .int .i64 32 := rfl
    refine head_val (.slice (some ⟨w.heap.size, 0, none⟩) 32 32) ?_ (Below.refl _ _) rfl
    generalize a.eval = ρ at *
    clear hs' hd'
    go_simp
  · intro vals a w1 hb hs' hd'
    have e : a.eval (.tmp 3) = .pointer (some ⟨w.heap.size + 1, 0, none⟩) := hs' 3 (by decide)
    refine head_val (.slice (some ⟨w.heap.size + 1, 0, none⟩) 32 32) ?_ (Below.refl _ _) rfl
    generalize a.eval = ρ at *
    clear hs' hd'
    go_simp
  · intro vals a w1 hb hs' hd'
    have e5 : a.eval (.tmp 5) = .slice (some ⟨w.heap.size, 0, none⟩) 32 32 := (hd' 0 (by decide)).1.trans (hd' 0 (by decide)).2
    have e6 : a.eval (.tmp 6) = .slice (some ⟨w.heap.size + 1, 0, none⟩) 32 32 := (hd' 1 (by decide)).1.trans (hd' 1 (by decide)).2
    obtain ⟨v', w', hrun, r1, r2⟩ := run_append_arg_grows (P := Try.prog) w1 25 25 5 i0 (.int .u8 0) 1 1 Try.underlying25 hi hz0 hz1 hz2 rfl (by decide) ⟨w.heap.size, 0, none⟩ 32 32 (s.map V8) (by simp [hs]) (cells_at (row_range ((hb.block _ (by omega)).trans hn1))) ⟨w.heap.size + 1, 0, none⟩ 32 32 (d.map V8) (by simp [hd]) (cells_at (row_range ((hb.block _ (by omega)).trans hn2))) (by omega) (by unfold maxLen; omega) (by omega)
    have hown : w'.ownsRow w1.heap.size 5 1 v' (s ++ d).length ((s ++ d).map V8) := by rw [List.length_append, hs, hd, List.map_append]; exact r1
    refine head_val v' (w' := w') ?_ (below_of_grown r2 (by simp)) (BytesAt.of_owns hown)
    simp [execOp, resolve, invoke, builtin, e5, e6, hrun, Result.andThen]
  · intro vals a w1 hb hs' hd'
    have e7 : a.eval (.tmp 7) = vals 2 := (hd' 2 (by decide)).1
    have hby : BytesAt w1 (vals 2) (s ++ d) := (hd' 2 (by decide)).2
    have ef : a.eval (.func 27) = .func (.func 27) #[] #[] := rfl
    refine head_call (f := 27) (args := #[vals 2]) ?_ ((of_any (vals 2) (s ++ d) w1 hby (by rw [List.length_append]; omega)).mono fun e w' h => ⟨_, h.1, h.2, rfl⟩)
    generalize a.eval = ρ at *
    clear hs' hd'
    go_simp
  · intro vals w' hb hall
    have h3 : vals 3 = .agg (bytesA (Sha.hash (s ++ d))) := hall 3 (by omega)
    have hn4 : w'.heap[w.heap.size + 2]? = _ := (hb.block _ (by omega)).trans hn3
    have HN4 := Lib.hid hn4
    have HB4 := Lib.hid (hb1.trans (hb.mono (by omega)))
    clear hn4 hb hn1 hn2 hn3 hW1 hb1 hall
    simp only [List.take_succ_cons, List.take_zero, List.drop_succ_cons, List.drop_zero, putHeads, List.zipIdx_cons, List.zipIdx_nil, List.foldl_cons, List.foldl_nil, Act.put, List.setIfInBounds_toArray, List.set_cons_zero, List.set_cons_succ, Nat.zero_add, Nat.reduceAdd, h3]
    refine wpList_store_row rfl 28 (.tmp 4) (.tmp 8) rfl (w.heap.size + 2) (bytesA (Sha.hash (s ++ d))) rfl rfl 28 _ HN4.out (by rw [size_bytesA, hash_length]; kernel_rfl) (by rw [size_bytesA, size_bytesA, hash_length]; rfl) (all_bytes _) ?_
    refine wpList_nil ?_
    go_wp2_with fail
    exact bodyPost_ret (results_cell_row rfl _ _ (w.heap.size + 2) 28 (bytesA (Sha.hash (s ++ d))) (0, 0) _ rfl (setRow_heap _ _ _ _ _ _ HN4.out) Try.underlying28 rfl (by rw [size_bytesA, hash_length]; kernel_rfl)) rfl ⟨rfl, below_setRow HB4.out (by omega) _⟩
end Go.Proofs.Ytdecbimklomdjaa
