/- A Sum's Copy, End and Len, and the hash of bytes. -/
import Derived.Test.YtdecbimklomdjaaWrite
namespace Go.Proofs.Ytdecbimklomdjaa
open Go Go.RowKit Go.Shelf
theorem all_sum (s : Sha.St) (a : Option Addr) (n c : Nat) (t : Int) : (sumA s.list (.slice a n c) t).all (·.oneCell') = true := by
  unfold sumA
  rw [List.all_toArray, List.all_append, Bool.and_eq_true]
  exact ⟨by rw [List.all_map]; exact List.all_eq_true.2 fun _ _ => rfl, rfl⟩
set_option maxRecDepth 100000 in
set_option maxHeartbeats 1000000 in
theorem copy_any (b : Nat) (m : List UInt8) (w : World) (hS : SumAt w b m) (hz : Sha.mid m ≠ Sha.St.zero) :
    Calls Try.prog 21 #[.pointer (some ⟨b, 0, none⟩)] w fun e w' => ∃ c, e = .returned (.pointer (some ⟨c, 0, none⟩)) ∧ w.heap.size ≤ c ∧ Below w.heap.size w w' ∧ SumAt w' c m := by
  obtain ⟨r, hs, g, hg, hrest⟩ := hS
  obtain ⟨ra, rn, rc, rfl⟩ := hrest.slice
  have hbs : b < w.heap.size := (Array.getElem?_eq_some_iff.1 hs).1
  have HS := Lib.hid hs
  have HG := Lib.hid hg
  have HREST := Lib.hid hrest
  have HZ := Lib.hid (zero_ne hz)
  have hc8 : w.cell? ⟨b, 8, none⟩ = some (.slice ra rn rc) := cell_of_row _ _ _ _ _ _ hs
  have hlen5 : (Sha.rest m).length ≤ 140737488355328 := by rw [Sha.rest_length]; omega
  have HL5 := Lib.hid hlen5
  clear hs hg hrest hz hlen5
  go_enter Try.func21, Try.ntmps21
  go_wp2_with (first | (go_at_call 75; refine (none_any b (Sha.mid m).list rfl _ _ _ HS.out).mono ?_; rintro e w' ⟨rfl, rfl⟩; rw [HZ.out]) | ((with_reducible refine wpList_load_row ?_ 113 (.tmp 7) ?_ b ?_ 113 _ (0, 0) _ HS.out Try.underlying113 ?_ ?_ ?_); (next => rfl); (next => rfl); (next => rfl); (next => rfl); (next => kernel_rfl)) | ((with_reducible refine wpList_store_row ?_ 113 (.tmp 3) (.tmp 8) ?_ w.heap.size (sumA (Sha.mid m).list (.slice ra rn rc) m.length) ?_ ?_ 113 _ (heap_alloc_new w _) ?_ ?_ ?_ ?_);  (next => rfl); (next => rfl); (next => rfl); (next => rfl); (next => kernel_rfl); (next => rfl); (next => exact all_sum _ _ _ _ _); rw [World.setRow_alloc_new]))
  obtain ⟨W1, hW1⟩ : ∃ W1, w.alloc (.cells (sumA (Sha.mid m).list (.slice ra rn rc) m.length) 113) = W1 := ⟨_, rfl⟩
  have hb1 : Below w.heap.size w W1 := by rw [← hW1]; exact (Below.refl _ _).alloc (Nat.le_refl _) _
  have hn1 : W1.heap[w.heap.size]? = some (.cells (sumA (Sha.mid m).list (.slice ra rn rc) m.length) 113 (0, 0)) := by rw [← hW1]; exact heap_alloc_new _ _
  have hsz : w.heap.size < W1.heap.size := (Array.getElem?_eq_some_iff.1 hn1).1
  rw [hW1]
  refine (clone_any _ (Sha.rest m) W1 (HREST.out.at.below hb1) HL5.out).mono ?_
  rintro e w' ⟨v', rfl, hown, hbe⟩
  obtain ⟨ao, no, co, rfl⟩ := owns_slice hown
  have hn2 : w'.heap[w.heap.size]? = _ := (hbe.block _ hsz).trans hn1
  have hc : w'.cell? ⟨w.heap.size, 8, none⟩ = some (.slice ra rn rc) := cell_of_row _ _ _ _ _ _ hn2
  have hf : w'.frozen? ⟨w.heap.size, 8, none⟩ = false := frozen_of_row _ _ _ _ _ hn2
  obtain ⟨g2, hg2, hb2⟩ := BytesIn.of_owns hown
  have HN2 := Lib.hid hn2
  have HB2 := Lib.hid hb2
  have HBE := Lib.hid hbe
  have HB1 := Lib.hid hb1
  clear hown hn1 hn2 hb2 hbe hb1 hW1
  go_wp2_with fail
  go_ret
  refine ⟨_, rfl, Nat.le_refl _, ?_, _, ?_, g2, by omega, HB2.out.turns (S := fun i => i = w.heap.size) ⟨by simp, fun i _ hi => heap_setCell_other _ _ _ _ hi⟩ (by omega)⟩
  · exact ((HB1.out.trans (HBE.out.mono (by omega)))).setCell (Nat.le_refl _) _
  · rw [heap_setCell_same _ _ _ _ _ _ HN2.out]; rfl
end Go.Proofs.Ytdecbimklomdjaa
