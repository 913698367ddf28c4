/- purserlaw04.alive: the first two examples. -/
import Derived.Test.YtdecbimklomdjaaHex
import Derived.Lib.SlBytesConst
namespace Go.Proofs.Ytdecbimklomdjaa
open Go Go.RowKit Go.Shelf
theorem hex_nil : hexL (Sha.hash []) = [101, 51, 98, 48, 99, 52, 52, 50, 57, 56, 102, 99, 49, 99, 49, 52, 57, 97, 102, 98, 102, 52, 99, 56, 57, 57, 54, 102, 98, 57, 50, 52, 50, 55, 97, 101, 52, 49, 101, 52, 54, 52, 57, 98, 57, 51, 52, 99, 97, 52, 57, 53, 57, 57, 49, 98, 55, 56, 53, 50, 98, 56, 53, 53] := by decide +kernel
theorem hex_abc : hexL (Sha.hash [97, 98, 99]) = [98, 97, 55, 56, 49, 54, 98, 102, 56, 102, 48, 49, 99, 102, 101, 97, 52, 49, 52, 49, 52, 48, 100, 101, 53, 100, 97, 101, 50, 50, 50, 51, 98, 48, 48, 51, 54, 49, 97, 51, 57, 54, 49, 55, 55, 97, 57, 99, 98, 52, 49, 48, 102, 102, 54, 49, 102, 50, 48, 48, 49, 53, 97, 100] := by decide +kernel
set_option maxRecDepth 100000 in
set_option maxHeartbeats 1000000 in
theorem first_any (w : World) : Calls Try.prog 26 #[] w fun e w' => e = .returned (.bool true) ∧ Below w.heap.size w w' := by
  have hx1 := Lib.hid hex_nil
  have hcv := fun (W : World) (C : Array Value) (n c : Nat) => Lib.run_convert_bytes_const (P := Try.prog) W 25 5 C n c Try.underlying25 Try.underlying5
  have hx2 := Lib.hid hex_abc
  go_enter Try.func26, Try.ntmps26
  go_wp2_with fail
  refine (of_any (.slice none 0 0) [] w (.inl ⟨rfl, rfl⟩) (by simp)).mono ?_
  rintro e W1 ⟨rfl, hb1⟩
  have HB1 := Lib.hid hb1
  clear hb1
  go_wp2_with fail
  refine (hex_any _ (hash_length []) W1).mono ?_
  rintro e W2 ⟨rfl, hb2⟩
  rw [hx1.out]
  have HB2 := Lib.hid (HB1.out.trans (hb2.mono HB1.out.size))
  clear hb2
  go_wp2_with fail
  have hb3 : BytesAt (W2.alloc (.cells (bytesA [97, 98, 99]) 5 (3, 4))) (.slice (some ⟨W2.heap.size, 0, none⟩) 3 3) [97, 98, 99] := bytesAt_row (l := [97, 98, 99]) (heap_alloc_new _ _) 3 (Nat.le_refl _) (by unfold maxLen; omega)
  have hb4 : Below W2.heap.size W2 (W2.alloc (.cells (bytesA [97, 98, 99]) 5 (3, 4))) := (Below.refl _ _).alloc (Nat.le_refl _) _
  refine (of_any _ [97, 98, 99] _ hb3 (by simp)).mono ?_
  rintro e W3 ⟨rfl, hb5⟩
  have HB3 := Lib.hid (HB2.out.trans ((hb4.trans (hb5.mono hb4.size)).mono HB2.out.size))
  clear hb3 hb4 hb5
  go_wp2_with fail
  refine (hex_any _ (hash_length [97, 98, 99]) W3).mono ?_
  rintro e W4 ⟨rfl, hb6⟩
  rw [hx2.out]
  have HB4 := Lib.hid (HB3.out.trans (hb6.mono HB3.out.size))
  clear hb6
  go_wp2_with fail
  go_ret
  exact ⟨rfl, HB4.out⟩
end Go.Proofs.Ytdecbimklomdjaa
