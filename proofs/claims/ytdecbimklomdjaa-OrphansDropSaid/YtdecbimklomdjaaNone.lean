/- A pool's Next; A pool's Next; The functions that OrphansNames hands to Next; A pool's All, Drop, where there is no pool. -/
import Derived.Test.YtdecbimklomdjaaPoolCopy
namespace Go.Proofs.Ytdecbimklomdjaa
open Go Go.RowKit Go.Shelf
theorem load80 {w : World} {A : Addr} {v : Value} (h : w.cell? A = some v) : (loadVar 80 A).run Try.prog w = .ok v w := by
  have : (isAgg 80).run Try.prog w = .ok false w := by kernel_rfl
  simp [loadVar, this, h]
set_option maxRecDepth 100000 in
theorem next1_any (f : FuncId) (cap : Array Value) (dp : List UInt8 → Bool) (ef : ∀ args w, (callFunc f args).run Try.prog w = .ok (.enter f args) w) (prev : List UInt8) (n : Nat) (hpl : prev.length = 32) (b : Nat) (w : World) (hb : w.heap[b]? = some (.cells #[.func (.func f) #[] cap] 80 (0, 0)))
    (hf : ∀ W, Below w.heap.size w W → Calls Try.prog f (#[.agg (bytesA prev)] ++ cap) W fun e W' => e = .returned (.bool (dp prev)) ∧ Below W.heap.size W W') :
    Calls Try.prog 98 #[.agg (oneL (hh prev n) prev n).toArray, .pointer (some ⟨b, 0, none⟩)] w fun e w' => e = .returned (.bool (dp prev)) ∧ Below w.heap.size w w' := by
  obtain ⟨W1, hW1⟩ : ∃ W1, W1 = w.alloc (.cells (oneL (hh prev n) prev n).toArray 139) := ⟨_, rfl⟩
  obtain ⟨q, hq⟩ : ∃ q, q = w.heap.size := ⟨_, rfl⟩
  have hb1 : Below w.heap.size w W1 := hW1 ▸ (Below.refl _ _).alloc (Nat.le_refl _) _
  have HR : Hid (W1.heap[q]? = some (.cells (oneL (hh prev n) prev n).toArray 139 (0, 0))) := Lib.hid (by rw [hW1, hq]; exact heap_alloc_new _ _)
  have HPL := Lib.hid hpl
  have HB := Lib.hid (block_below' hb1 hb)
  have HB1 := Lib.hid hb1
  have HW1 := Lib.hid hW1
  have HQ := Lib.hid hq
  have HF := Lib.hid (hf W1 hb1)
  have EF := Lib.hid ef
  clear hpl hb hb1 hW1 hq hf ef
  go_enter Try.func98, Try.ntmps98
  go_upto_region 1 with (fail)
  change Code.wp Try.prog _ _ _ (w.alloc (.cells (oneL (hh prev n) prev n).toArray 139))
  rw [← HW1.out, ← HQ.out]
  refine wp_region_lit ?_
  refine wpList_get rfl 80 (.tmp 1) rfl (A := ⟨b, 0, none⟩) rfl (load80 (cell_of_row _ _ _ _ _ _ HB.out)) ?_
  try (conv => lhs; change (Act.mk #[_,_,_,_,_,_,_,_,_,_] _))
  refine wpList_one (v := .pointer (some ⟨q, 32, none⟩)) (w' := W1) rfl (by kernel_rfl) ?_
  try (conv => lhs; change (Act.mk #[_,_,_,_,_,_,_,_,_,_] _))
  refine wpList_one (v := .pointer (some ⟨q, 32, none⟩)) (w' := W1) rfl (by kernel_rfl) ?_
  try (conv => lhs; change (Act.mk #[_,_,_,_,_,_,_,_,_,_] _))
  refine wpList_one (v := .pointer (some ⟨q, 33, none⟩)) (w' := W1) rfl (by kernel_rfl) ?_
  try (conv => lhs; change (Act.mk #[_,_,_,_,_,_,_,_,_,_] _))
  refine wpList_get rfl 28 (.tmp 7) rfl (A := ⟨q, 33, none⟩) rfl (one_parent HR.out HPL.out) ?_
  try (conv => lhs; change (Act.mk #[_,_,_,_,_,_,_,_,_,_] _))
  refine wpList_call rfl (call_run (x := .tmp 4) (y := .tmp 8) (f := f) (cap := cap) (u := .agg (bytesA prev)) rfl rfl rfl EF.out) (HF.out.mono ?_)
  rintro e W2 ⟨rfl, hb2⟩
  refine ⟨_, rfl, ?_⟩
  try (conv => lhs; change (Act.mk #[_,_,_,_,_,_,_,_,_,_] _))
  go_wp2_with fail
  go_ret
  exact ⟨rfl, HB1.out.trans (hb2.mono HB1.out.size)⟩
end Go.Proofs.Ytdecbimklomdjaa
namespace Go.Proofs.Ytdecbimklomdjaa
open Go Go.RowKit Go.Shelf
set_option maxRecDepth 100000 in
set_option maxHeartbeats 1000000 in
theorem next_nil (p c : Nat) (v : Value) (most : Nat) (l : List (List UInt8 × Nat)) (w : World) (hp : PoolAt w p c v most l) :
    Calls Try.prog 48 #[.pointer (some ⟨p, 0, none⟩), .nilFunc] w fun e w' => e = .returned (.tuple #[.agg (bytesA (Sha.zeros 32)), .bool false]) ∧ Below w.heap.size w w' := by
  obtain ⟨W1, hW1, hb1, hn1, hn2, hsz⟩ := two_new w (.cells #[.nilFunc] 80) (.cells (bytesA (Sha.zeros 32)) 28)
  obtain ⟨B, hB⟩ : ∃ B, B = w.heap.size := ⟨_, rfl⟩
  rw [← hB] at hn1 hn2
  have HB1 := Lib.hid hb1
  have HN1 := Lib.hid hn1
  have HN2 := Lib.hid hn2
  have HW1 := Lib.hid hW1
  have HBE := Lib.hid hB
  have HP1 := Lib.hid (hp.below hb1)
  clear hb1 hn1 hn2 hW1 hsz hB
  go_enter Try.func48, Try.ntmps48
  go_upto_region 1 with (fail)
  change Code.wp Try.prog _ _ _ ((w.alloc (.cells #[.nilFunc] 80)).alloc (.cells (bytesA (Sha.zeros 32)) 28))
  rw [HW1.out, ← HBE.out]
  refine wp_region_lit ?_
  refine wpList_one (v := .pointer (some ⟨p, 0, none⟩)) (w' := W1) rfl (by kernel_rfl) ?_
  try (conv => lhs; change (Act.mk #[_,_,_,_,_,_,_,_,_,_,_,_,_,_,_,_,_,_,_,_,_,_,_,_,_,_,_,_] _))
  refine wpList_call rfl (f := 93) (args := #[.pointer (some ⟨p, 0, none⟩)]) (by kernel_rfl) ((none_live W1 p c v most l HP1.out).mono ?_)
  rintro e w' ⟨rfl, rfl⟩
  refine ⟨_, rfl, ?_⟩
  try (conv => lhs; change (Act.mk #[_,_,_,_,_,_,_,_,_,_,_,_,_,_,_,_,_,_,_,_,_,_,_,_,_,_,_,_] _))
  refine wpList_one (v := .bool false) (w' := W1) rfl (by kernel_rfl) ?_
  try (conv => lhs; change (Act.mk #[_,_,_,_,_,_,_,_,_,_,_,_,_,_,_,_,_,_,_,_,_,_,_,_,_,_,_,_] _))
  refine wpList_oneW (w' := W1) (by kernel_rfl) (load_run (x := .tmp 3) rfl rfl (load80 (cell_of_row _ _ _ _ _ _ HN1.out))) ?_
  try (conv => lhs; change (Act.mk #[_,_,_,_,_,_,_,_,_,_,_,_,_,_,_,_,_,_,_,_,_,_,_,_,_,_,_,_] _))
  refine wpList_oneW (v := .bool true) (w' := W1) (by kernel_rfl) (by kernel_rfl) ?_
  try (conv => lhs; change (Act.mk #[_,_,_,_,_,_,_,_,_,_,_,_,_,_,_,_,_,_,_,_,_,_,_,_,_,_,_,_] _))
  refine wpList_one (v := .bool true) (w' := W1) rfl (by kernel_rfl) ?_
  try (conv => lhs; change (Act.mk #[_,_,_,_,_,_,_,_,_,_,_,_,_,_,_,_,_,_,_,_,_,_,_,_,_,_,_,_] _))
  go_upto_region 2 with (fail)
  refine wp_region_lit ?_
  refine wpList_one (v := .agg (bytesA (Sha.zeros 32))) (w' := W1) rfl (by kernel_rfl) ?_
  try (conv => lhs; change (Act.mk #[_,_,_,_,_,_,_,_,_,_,_,_,_,_,_,_,_,_,_,_,_,_,_,_,_,_,_,_] _))
  refine wpList_put rfl 28 (.tmp 4) (.tmp 13) rfl (A := ⟨B + 1, 0, none⟩) (v := .agg (bytesA (Sha.zeros 32))) rfl rfl (store28 HN2.out (by rw [size_bytesA]; rfl) (by rfl)) ?_
  try (conv => lhs; change (Act.mk #[_,_,_,_,_,_,_,_,_,_,_,_,_,_,_,_,_,_,_,_,_,_,_,_,_,_,_,_] _))
  have HN3 := Lib.hid (setRow_heap W1 (B + 1) _ (bytesA (Sha.zeros 32)) _ _ HN2.out)
  have HB3 := Lib.hid (below_setRow HB1.out (show w.heap.size ≤ B + 1 by have := HBE.out; omega) (bytesA (Sha.zeros 32)))
  go_wp2_with fail
  exact bodyPost_ret (results_cell_tmp2 rfl _ _ rfl (load28 HN3.out (by rfl))) rfl ⟨rfl, HB3.out⟩
theorem firstAt_hit {d : List UInt8 × Nat → Bool} {l : List (List UInt8 × Nat)} {i : Nat} (h : firstAt d l = (i : Int)) : i < l.length := by
  unfold firstAt at h
  cases hf : l.findIdx? d with
  | none => rw [hf] at h; simp at h
  | some j =>
    rw [hf] at h
    have := (List.findIdx?_eq_some_iff_getElem.1 hf).1
    have h2 : (j : Int) = (i : Int) := by simpa using h
    omega
/-- What a step of Next's finds. -/
def parentAt (dp : List UInt8 → Bool) (l : List (List UInt8 × Nat)) : Int := firstAt (fun b => dp b.1) l
set_option maxRecDepth 100000 in
set_option maxHeartbeats 1000000 in
theorem next_miss (p c : Nat) (v : Value) (most : Nat) (l : List (List UInt8 × Nat)) (f : FuncId) (cap : Array Value) (dp : List UInt8 → Bool) (ef : ∀ args w, (callFunc f args).run Try.prog w = .ok (.enter f args) w) (hat : parentAt dp l < 0) (w : World) (hp : PoolAt w p c v most l)
    (hf : ∀ prev W, prev.length = 32 → Below w.heap.size w W → Calls Try.prog f (#[.agg (bytesA prev)] ++ cap) W fun e W' => e = .returned (.bool (dp prev)) ∧ Below W.heap.size W W') :
    Calls Try.prog 48 #[.pointer (some ⟨p, 0, none⟩), .func (.func f) #[] cap] w fun e w' => e = .returned (.tuple #[.agg (bytesA (Sha.zeros 32)), .bool false]) ∧ Below w.heap.size w w' := by
  obtain ⟨W1, hW1, hb1, hn1, hn2, hsz⟩ := two_new w (.cells #[.func (.func f) #[] cap] 80) (.cells (bytesA (Sha.zeros 32)) 28)
  obtain ⟨B, hB⟩ : ∃ B, B = w.heap.size := ⟨_, rfl⟩
  rw [← hB] at hn1 hn2
  have HB1 := Lib.hid hb1
  have HN1 := Lib.hid hn1
  have HN2 := Lib.hid hn2
  have HW1 := Lib.hid hW1
  have HBE := Lib.hid hB
  have HP1 := Lib.hid (hp.below hb1)
  clear hb1 hn1 hn2 hW1 hsz hB
  go_enter Try.func48, Try.ntmps48
  go_upto_region 1 with (fail)
  change Code.wp Try.prog _ _ _ ((w.alloc (.cells #[.func (.func f) #[] cap] 80)).alloc (.cells (bytesA (Sha.zeros 32)) 28))
  rw [HW1.out, ← HBE.out]
  have hfind := find_any p c v most l 98 #[.pointer (some ⟨B, 0, none⟩)] (fun b => dp b.1) (enters_of Try.func98 (by kernel_rfl) rfl) W1 HP1.out
    (fun prev n hm W hb => next1_any f cap dp ef prev n (HP1.out.lens _ hm).1 B W (block_below' hb HN1.out) (fun W' hb' => hf prev W' (HP1.out.lens _ hm).1 ((HB1.out.trans (hb.mono HB1.out.size)).trans (hb'.mono (HB1.out.trans (hb.mono HB1.out.size)).size))))
  have HFD := Lib.hid hfind
  clear hfind hf ef
  refine wp_region_lit ?_
  refine wpList_one (v := .pointer (some ⟨p, 0, none⟩)) (w' := W1) rfl (by kernel_rfl) ?_
  try (conv => lhs; change (Act.mk #[_,_,_,_,_,_,_,_,_,_,_,_,_,_,_,_,_,_,_,_,_,_,_,_,_,_,_,_] _))
  refine wpList_call rfl (f := 93) (args := #[.pointer (some ⟨p, 0, none⟩)]) (by kernel_rfl) ((none_live W1 p c v most l HP1.out).mono ?_)
  rintro e w' ⟨rfl, rfl⟩
  refine ⟨_, rfl, ?_⟩
  try (conv => lhs; change (Act.mk #[_,_,_,_,_,_,_,_,_,_,_,_,_,_,_,_,_,_,_,_,_,_,_,_,_,_,_,_] _))
  refine wpList_one (v := .bool false) (w' := W1) rfl (by kernel_rfl) ?_
  try (conv => lhs; change (Act.mk #[_,_,_,_,_,_,_,_,_,_,_,_,_,_,_,_,_,_,_,_,_,_,_,_,_,_,_,_] _))
  refine wpList_oneW (w' := W1) (by kernel_rfl) (load_run (x := .tmp 3) rfl rfl (load80 (cell_of_row _ _ _ _ _ _ HN1.out))) ?_
  try (conv => lhs; change (Act.mk #[_,_,_,_,_,_,_,_,_,_,_,_,_,_,_,_,_,_,_,_,_,_,_,_,_,_,_,_] _))
  refine wpList_oneW (v := .bool false) (w' := W1) (by kernel_rfl) (by kernel_rfl) ?_
  try (conv => lhs; change (Act.mk #[_,_,_,_,_,_,_,_,_,_,_,_,_,_,_,_,_,_,_,_,_,_,_,_,_,_,_,_] _))
  refine wpList_one (v := .bool false) (w' := W1) rfl (by kernel_rfl) ?_
  try (conv => lhs; change (Act.mk #[_,_,_,_,_,_,_,_,_,_,_,_,_,_,_,_,_,_,_,_,_,_,_,_,_,_,_,_] _))
  go_upto_region 3 with (fail)
  refine wp_region_lit ?_
  refine wpList_one (v := .pointer (some ⟨p, 0, none⟩)) (w' := W1) rfl (by kernel_rfl) ?_
  try (conv => lhs; change (Act.mk #[_,_,_,_,_,_,_,_,_,_,_,_,_,_,_,_,_,_,_,_,_,_,_,_,_,_,_,_] _))
  refine wpList_one (v := .func (.func 98) #[] #[.pointer (some ⟨B, 0, none⟩)]) (w' := W1) rfl (by kernel_rfl) ?_
  try (conv => lhs; change (Act.mk #[_,_,_,_,_,_,_,_,_,_,_,_,_,_,_,_,_,_,_,_,_,_,_,_,_,_,_,_] _))
  refine wpList_call rfl (f := 97) (args := #[.pointer (some ⟨p, 0, none⟩), .func (.func 98) #[] #[.pointer (some ⟨B, 0, none⟩)]]) (by kernel_rfl) (HFD.out.mono ?_)
  rintro e W2 ⟨rfl, hb2⟩
  refine ⟨_, rfl, ?_⟩
  try (conv => lhs; change (Act.mk #[_,_,_,_,_,_,_,_,_,_,_,_,_,_,_,_,_,_,_,_,_,_,_,_,_,_,_,_] _))
  have HN2 := Lib.hid (block_below' hb2 HN2.out)
  have HB1 := Lib.hid (HB1.out.trans (hb2.mono HB1.out.size))
  have HP2 := Lib.hid (HP1.out.below hb2)
  clear hb2
  have hat' : firstAt (fun b => dp b.1) l < 0 := hat
  go_upto_region 5 with (fail)
  refine wp_region_lit ?_
  refine wpList_one (v := .agg (bytesA (Sha.zeros 32))) (w' := W2) rfl (by kernel_rfl) ?_
  try (conv => lhs; change (Act.mk #[_,_,_,_,_,_,_,_,_,_,_,_,_,_,_,_,_,_,_,_,_,_,_,_,_,_,_,_] _))
  refine wpList_put rfl 28 (.tmp 4) (.tmp 19) rfl (A := ⟨B + 1, 0, none⟩) (v := .agg (bytesA (Sha.zeros 32))) rfl rfl (store28 HN2.out (by rw [size_bytesA]; rfl) (by rfl)) ?_
  try (conv => lhs; change (Act.mk #[_,_,_,_,_,_,_,_,_,_,_,_,_,_,_,_,_,_,_,_,_,_,_,_,_,_,_,_] _))
  have HN3 := Lib.hid (setRow_heap W2 (B + 1) _ (bytesA (Sha.zeros 32)) _ _ HN2.out)
  have HB3 := Lib.hid (below_setRow HB1.out (show w.heap.size ≤ B + 1 by have := HBE.out; omega) (bytesA (Sha.zeros 32)))
  go_wp2_with fail
  exact bodyPost_ret (results_cell_tmp2 rfl _ _ rfl (load28 HN3.out (by rfl))) rfl ⟨rfl, HB3.out⟩
theorem one_hash_mid {w : World} {g o : Nat} {prev : List UInt8} {n : Nat} (h : w.rangeAt g o (oneL (hh prev n) prev n)) : (loadVar 28 ⟨g, o, none⟩).run Try.prog w = .ok (.agg (bytesA (hh prev n))) w :=
  run_loadVar_mid w g o 28 ((hh prev n).map V8) _ (fun j u hj => h j u (by have := part_head ((hh prev n).map V8) (blkL prev n) j u hj; rwa [Nat.zero_add] at this)) Try.underlying28 rfl (by rw [List.length_map, hh_length]; kernel_rfl)
set_option maxRecDepth 100000 in
set_option maxHeartbeats 1000000 in
theorem next_hit (p c : Nat) (v : Value) (most : Nat) (l : List (List UInt8 × Nat)) (f : FuncId) (cap : Array Value) (dp : List UInt8 → Bool) (ef : ∀ args w, (callFunc f args).run Try.prog w = .ok (.enter f args) w) (i : Nat) (prev0 : List UInt8) (n : Nat) (hat : parentAt dp l = (i : Int)) (hi : l[i]? = some (prev0, n)) (w : World) (hp : PoolAt w p c v most l)
    (hf : ∀ prev W, prev.length = 32 → Below w.heap.size w W → Calls Try.prog f (#[.agg (bytesA prev)] ++ cap) W fun e W' => e = .returned (.bool (dp prev)) ∧ Below W.heap.size W W') :
    Calls Try.prog 48 #[.pointer (some ⟨p, 0, none⟩), .func (.func f) #[] cap] w fun e w' => e = .returned (.tuple #[.agg (bytesA (hh prev0 n)), .bool true]) ∧ Below w.heap.size w w' := by
  obtain ⟨W1, hW1, hb1, hn1, hn2, hsz⟩ := two_new w (.cells #[.func (.func f) #[] cap] 80) (.cells (bytesA (Sha.zeros 32)) 28)
  obtain ⟨B, hB⟩ : ∃ B, B = w.heap.size := ⟨_, rfl⟩
  rw [← hB] at hn1 hn2
  have HB1 := Lib.hid hb1
  have HN1 := Lib.hid hn1
  have HN2 := Lib.hid hn2
  have HW1 := Lib.hid hW1
  have HBE := Lib.hid hB
  have HP1 := Lib.hid (hp.below hb1)
  clear hb1 hn1 hn2 hW1 hsz hB
  go_enter Try.func48, Try.ntmps48
  go_upto_region 1 with (fail)
  change Code.wp Try.prog _ _ _ ((w.alloc (.cells #[.func (.func f) #[] cap] 80)).alloc (.cells (bytesA (Sha.zeros 32)) 28))
  rw [HW1.out, ← HBE.out]
  have hfind := find_any p c v most l 98 #[.pointer (some ⟨B, 0, none⟩)] (fun b => dp b.1) (enters_of Try.func98 (by kernel_rfl) rfl) W1 HP1.out
    (fun prev n hm W hb => next1_any f cap dp ef prev n (HP1.out.lens _ hm).1 B W (block_below' hb HN1.out) (fun W' hb' => hf prev W' (HP1.out.lens _ hm).1 ((HB1.out.trans (hb.mono HB1.out.size)).trans (hb'.mono (HB1.out.trans (hb.mono HB1.out.size)).size))))
  have HFD := Lib.hid hfind
  clear hfind hf ef
  refine wp_region_lit ?_
  refine wpList_one (v := .pointer (some ⟨p, 0, none⟩)) (w' := W1) rfl (by kernel_rfl) ?_
  try (conv => lhs; change (Act.mk #[_,_,_,_,_,_,_,_,_,_,_,_,_,_,_,_,_,_,_,_,_,_,_,_,_,_,_,_] _))
  refine wpList_call rfl (f := 93) (args := #[.pointer (some ⟨p, 0, none⟩)]) (by kernel_rfl) ((none_live W1 p c v most l HP1.out).mono ?_)
  rintro e w' ⟨rfl, rfl⟩
  refine ⟨_, rfl, ?_⟩
  try (conv => lhs; change (Act.mk #[_,_,_,_,_,_,_,_,_,_,_,_,_,_,_,_,_,_,_,_,_,_,_,_,_,_,_,_] _))
  refine wpList_one (v := .bool false) (w' := W1) rfl (by kernel_rfl) ?_
  try (conv => lhs; change (Act.mk #[_,_,_,_,_,_,_,_,_,_,_,_,_,_,_,_,_,_,_,_,_,_,_,_,_,_,_,_] _))
  refine wpList_oneW (w' := W1) (by kernel_rfl) (load_run (x := .tmp 3) rfl rfl (load80 (cell_of_row _ _ _ _ _ _ HN1.out))) ?_
  try (conv => lhs; change (Act.mk #[_,_,_,_,_,_,_,_,_,_,_,_,_,_,_,_,_,_,_,_,_,_,_,_,_,_,_,_] _))
  refine wpList_oneW (v := .bool false) (w' := W1) (by kernel_rfl) (by kernel_rfl) ?_
  try (conv => lhs; change (Act.mk #[_,_,_,_,_,_,_,_,_,_,_,_,_,_,_,_,_,_,_,_,_,_,_,_,_,_,_,_] _))
  refine wpList_one (v := .bool false) (w' := W1) rfl (by kernel_rfl) ?_
  try (conv => lhs; change (Act.mk #[_,_,_,_,_,_,_,_,_,_,_,_,_,_,_,_,_,_,_,_,_,_,_,_,_,_,_,_] _))
  go_upto_region 3 with (fail)
  refine wp_region_lit ?_
  refine wpList_one (v := .pointer (some ⟨p, 0, none⟩)) (w' := W1) rfl (by kernel_rfl) ?_
  try (conv => lhs; change (Act.mk #[_,_,_,_,_,_,_,_,_,_,_,_,_,_,_,_,_,_,_,_,_,_,_,_,_,_,_,_] _))
  refine wpList_one (v := .func (.func 98) #[] #[.pointer (some ⟨B, 0, none⟩)]) (w' := W1) rfl (by kernel_rfl) ?_
  try (conv => lhs; change (Act.mk #[_,_,_,_,_,_,_,_,_,_,_,_,_,_,_,_,_,_,_,_,_,_,_,_,_,_,_,_] _))
  refine wpList_call rfl (f := 97) (args := #[.pointer (some ⟨p, 0, none⟩), .func (.func 98) #[] #[.pointer (some ⟨B, 0, none⟩)]]) (by kernel_rfl) (HFD.out.mono ?_)
  rintro e W2 ⟨rfl, hb2⟩
  refine ⟨_, rfl, ?_⟩
  try (conv => lhs; change (Act.mk #[_,_,_,_,_,_,_,_,_,_,_,_,_,_,_,_,_,_,_,_,_,_,_,_,_,_,_,_] _))
  have HN2 := Lib.hid (block_below' hb2 HN2.out)
  have HB1 := Lib.hid (HB1.out.trans (hb2.mono HB1.out.size))
  have HP2 := Lib.hid (HP1.out.below hb2)
  clear hb2
  have hneg : ¬ (i : Int) < 0 := by omega
  have hat' : firstAt (fun b => dp b.1) l = (i : Int) := hat
  have hlt := (List.getElem?_eq_some_iff.1 hi).1
  rw [hat']
  obtain ⟨g, cp, hv, _, _, _, hrange⟩ := HP2.out.at hi
  go_upto_region 6 with (fail)
  refine wp_region_lit ?_
  refine wpList_one (v := .pointer (some ⟨p, 0, none⟩)) (w' := W2) rfl (by kernel_rfl) ?_
  try (conv => lhs; change (Act.mk #[_,_,_,_,_,_,_,_,_,_,_,_,_,_,_,_,_,_,_,_,_,_,_,_,_,_,_,_] _))
  refine wpList_one (v := .pointer (some ⟨p, 0, none⟩)) (w' := W2) rfl (by kernel_rfl) ?_
  try (conv => lhs; change (Act.mk #[_,_,_,_,_,_,_,_,_,_,_,_,_,_,_,_,_,_,_,_,_,_,_,_,_,_,_,_] _))
  refine wpList_one (v := .pointer (some ⟨p, 1, none⟩)) (w' := W2) rfl (by kernel_rfl) ?_
  try (conv => lhs; change (Act.mk #[_,_,_,_,_,_,_,_,_,_,_,_,_,_,_,_,_,_,_,_,_,_,_,_,_,_,_,_] _))
  refine wpList_get rfl 89 (.tmp 22) rfl (A := ⟨p, 1, none⟩) rfl (load89 HP2.out.cells.2) ?_
  try (conv => lhs; change (Act.mk #[_,_,_,_,_,_,_,_,_,_,_,_,_,_,_,_,_,_,_,_,_,_,_,_,_,_,_,_] _))
  rw [hv]
  refine wpList_one (v := .int .i64 (i : Int)) (w' := W2) rfl (by kernel_rfl) ?_
  try (conv => lhs; change (Act.mk #[_,_,_,_,_,_,_,_,_,_,_,_,_,_,_,_,_,_,_,_,_,_,_,_,_,_,_,_] _))
  refine wpList_one (w' := W2) rfl (index_run rfl (index89 W2 g l.length cp i hlt)) ?_
  try (conv => lhs; change (Act.mk #[_,_,_,_,_,_,_,_,_,_,_,_,_,_,_,_,_,_,_,_,_,_,_,_,_,_,_,_] _))
  refine wpList_one (v := .pointer (some ⟨g, i * 101, none⟩)) (w' := W2) rfl (by kernel_rfl) ?_
  try (conv => lhs; change (Act.mk #[_,_,_,_,_,_,_,_,_,_,_,_,_,_,_,_,_,_,_,_,_,_,_,_,_,_,_,_] _))
  refine wpList_get rfl 28 (.tmp 26) rfl (A := ⟨g, i * 101, none⟩) rfl (one_hash_mid hrange) ?_
  try (conv => lhs; change (Act.mk #[_,_,_,_,_,_,_,_,_,_,_,_,_,_,_,_,_,_,_,_,_,_,_,_,_,_,_,_] _))
  refine wpList_put rfl 28 (.tmp 4) (.tmp 27) rfl (A := ⟨B + 1, 0, none⟩) (v := .agg (bytesA (hh prev0 n))) rfl rfl (store28 HN2.out (by rw [size_bytesA]; rfl) (hh_length _ _)) ?_
  try (conv => lhs; change (Act.mk #[_,_,_,_,_,_,_,_,_,_,_,_,_,_,_,_,_,_,_,_,_,_,_,_,_,_,_,_] _))
  have HN3 := Lib.hid (setRow_heap W2 (B + 1) _ (bytesA (hh prev0 n)) _ _ HN2.out)
  have HB3 := Lib.hid (below_setRow HB1.out (show w.heap.size ≤ B + 1 by have := HBE.out; omega) (bytesA (hh prev0 n)))
  go_wp2_with fail
  exact bodyPost_ret (results_cell_tmp2 rfl _ _ rfl (load28 HN3.out (hh_length _ _))) rfl ⟨rfl, HB3.out⟩
end Go.Proofs.Ytdecbimklomdjaa
namespace Go.Proofs.Ytdecbimklomdjaa
open Go Go.RowKit Go.Shelf
set_option maxRecDepth 100000 in
theorem same49 (x prev : List UInt8) (hx : x.length = 32) (hp : prev.length = 32) (b : Nat) (w : World) (hb : w.heap[b]? = some (.cells (bytesA x) 28 (0, 0))) :
    Calls Try.prog 49 #[.agg (bytesA prev), .pointer (some ⟨b, 0, none⟩)] w fun e w' => e = .returned (.bool (prev == x)) ∧ Below w.heap.size w w' := by
  obtain ⟨W1, hW1⟩ : ∃ W1, W1 = w.alloc (.cells (bytesA prev) 28) := ⟨_, rfl⟩
  obtain ⟨q, hq⟩ : ∃ q, q = w.heap.size := ⟨_, rfl⟩
  have hb1 : Below w.heap.size w W1 := hW1 ▸ (Below.refl _ _).alloc (Nat.le_refl _) _
  have HR : Hid (W1.heap[q]? = some (.cells (bytesA prev) 28 (0, 0))) := Lib.hid (by rw [hW1, hq]; exact heap_alloc_new _ _)
  have HX := Lib.hid hx
  have HP := Lib.hid hp
  have HB := Lib.hid (block_below' hb1 hb)
  have HB1 := Lib.hid hb1
  have HW1 := Lib.hid hW1
  have HQ := Lib.hid hq
  clear hx hp hb hb1 hW1 hq
  go_enter Try.func49, Try.ntmps49
  go_upto_region 1 with (fail)
  change Code.wp Try.prog _ _ _ (w.alloc (.cells (bytesA prev) 28))
  rw [← HW1.out, ← HQ.out]
  refine wp_region_lit ?_
  refine wpList_get rfl 28 (.tmp 2) rfl (A := ⟨q, 0, none⟩) rfl (load28 HR.out HP.out) ?_
  try (conv => lhs; change (Act.mk #[_,_,_,_,_,_,_] _))
  refine wpList_get rfl 28 (.tmp 1) rfl (A := ⟨b, 0, none⟩) rfl (load28 HB.out HX.out) ?_
  try (conv => lhs; change (Act.mk #[_,_,_,_,_,_,_] _))
  refine wpList_one (w' := W1) rfl (eq28_run (x := .tmp 4) (y := .tmp 5) rfl rfl rfl HP.out HX.out) ?_
  try (conv => lhs; change (Act.mk #[_,_,_,_,_,_,_] _))
  go_wp2_with fail
  go_ret
  exact ⟨rfl, HB1.out⟩
set_option maxRecDepth 100000 in
theorem none50 (prev : List UInt8) (w : World) : Calls Try.prog 50 #[.agg (bytesA prev)] w fun e w' => e = .returned (.bool false) ∧ Below w.heap.size w w' := by
  have HB : Hid (Below w.heap.size w (w.alloc (.cells (bytesA prev) 28))) := Lib.hid ((Below.refl _ _).alloc (Nat.le_refl _) _)
  go_enter Try.func50, Try.ntmps50
  go_wp2_with fail
  go_ret
  exact ⟨rfl, HB.out⟩
end Go.Proofs.Ytdecbimklomdjaa
namespace Go.Proofs.Ytdecbimklomdjaa
open Go Go.RowKit Go.Shelf
set_option maxRecDepth 100000 in
theorem drop_none (u : Value) (x : List UInt8) (w : World) (h : ∀ W, Below w.heap.size w W → Calls Try.prog 93 #[u] W fun e w' => e = .returned (.bool true) ∧ W = w') :
    Calls Try.prog 53 #[u, .agg (bytesA x)] w fun e w' => e = .returned (.slice none 0 0) ∧ Below w.heap.size w w' := by
  obtain ⟨W1, hW1⟩ : ∃ W1, W1 = w.alloc (.cells (bytesA x) 28) := ⟨_, rfl⟩
  have hb1 : Below w.heap.size w W1 := hW1 ▸ (Below.refl _ _).alloc (Nat.le_refl _) _
  have HB1 := Lib.hid hb1
  have HW1 := Lib.hid hW1
  have H := Lib.hid h
  clear hb1 hW1 h
  go_enter Try.func53, Try.ntmps53
  go_upto_region 1 with (fail)
  change Code.wp Try.prog _ _ _ (w.alloc (.cells (bytesA x) 28))
  rw [← HW1.out]
  go_wp2_with (go_at_call 93; refine (H.out _ HB1.out).mono ?_; rintro e w' ⟨rfl, rfl⟩)
  go_ret
  exact ⟨rfl, HB1.out⟩
set_option maxRecDepth 100000 in
theorem all40_none (u : Value) (w : World) (h : Calls Try.prog 93 #[u] w fun e w' => e = .returned (.bool true) ∧ w = w') :
    Calls Try.prog 40 #[u] w fun e w' => e = .returned (.slice none 0 0) ∧ w = w' := by
  have H := Lib.hid h
  clear h
  refine calls_of_wp_marks Try.func40 rfl ?_
  simp only [Try.ntmps40, List.size_toArray, List.length_cons, List.length_nil, Nat.reduceAdd, Nat.reduceSub, Array.replicate_succ, Array.replicate_zero, List.push_toArray, List.append_toArray, List.nil_append, List.cons_append]
  go_wp2_with fail
  refine H.out.mono ?_
  rintro e w' ⟨rfl, rfl⟩
  go_wp2_with fail
  exact leave_bare (.inr rfl) rfl (results_tmp rfl _ _ _) ⟨rfl, rfl⟩
end Go.Proofs.Ytdecbimklomdjaa
