/- The first examples' hashes; a block behind a hash in two variables; purserlaw27's alive: the chapter's first examples. -/
import Derived.Test.YtdecbimklomdjaaDrop
import Derived.Test.YtdecbimklomdjaaPoolCopy
import Derived.Test.YtdecbimklomdjaaTake
namespace Go.Proofs.Ytdecbimklomdjaa
open Go Go.RowKit Go.Shelf
/-- A hash that begins so, all else zeros. -/
def fst8 (k : Nat) : List UInt8 := UInt8.ofNat k :: Sha.zeros 31
theorem fst8_length (k : Nat) : (fst8 k).length = 32 := rfl
/-- The examples' hashes. -/
def exX : List UInt8 := hh (fst8 1) 0
def exY : List UInt8 := hh exX 1
def exD : List UInt8 := hh (fst8 9) 2
set_option maxRecDepth 100000 in
theorem ex_all : (decide (exY ≠ exX) && decide (exD ≠ exY) && decide (exD ≠ exX) && decide (exX ≠ fst8 1)) = true := by decide +kernel
theorem ex_yx : exY ≠ exX := by have := ex_all; simp only [Bool.and_eq_true, decide_eq_true_iff] at this; exact this.1.1.1
theorem ex_dy : exD ≠ exY := by have := ex_all; simp only [Bool.and_eq_true, decide_eq_true_iff] at this; exact this.1.1.2
theorem ex_dx : exD ≠ exX := by have := ex_all; simp only [Bool.and_eq_true, decide_eq_true_iff] at this; exact this.1.2
theorem ex_xa : exX ≠ fst8 1 := by have := ex_all; simp only [Bool.and_eq_true, decide_eq_true_iff] at this; exact this.2
theorem exX_length : exX.length = 32 := hh_length _ _
theorem exY_length : exY.length = 32 := hh_length _ _
theorem firstAt_neg {d : List UInt8 × Nat → Bool} {l : List (List UInt8 × Nat)} (h : ∀ b ∈ l, d b = false) : firstAt d l < 0 := by
  unfold firstAt
  rw [List.findIdx?_eq_none_iff.2 h]
  decide
/-- Two variables: a block, and its hash. -/
theorem two_rows (Wa : World) (prev : List UInt8) (n : Nat) (x : List UInt8) (hp : prev.length = 32) (hx : x.length = 32) :
    ∃ k Wb Wc Wd We, k = Wa.heap.size ∧ Wb = Wa.alloc (.cells (blkL (Sha.zeros 32) 0).toArray 60) ∧ Wb.heap.size = k + 1 ∧ Wc = Wb.alloc (.cells (bytesA (Sha.zeros 32)) 28) ∧
      (storeVar 60 ⟨k, 0, none⟩ (.agg (blkL prev n).toArray)).run Try.prog Wc = .ok () Wd ∧ (storeVar 28 ⟨k + 1, 0, none⟩ (.agg (bytesA x))).run Try.prog Wd = .ok () We ∧
      Below Wa.heap.size Wa We ∧ We.heap[k]? = some (.cells (blkL prev n).toArray 60 (0, 0)) ∧ We.heap[k + 1]? = some (.cells (bytesA x) 28 (0, 0)) := by
  obtain ⟨Wc, hWc, hbc, hn1, hn2, hsz⟩ := two_new Wa (.cells (blkL (Sha.zeros 32) 0).toArray 60) (.cells (bytesA (Sha.zeros 32)) 28)
  refine ⟨Wa.heap.size, Wa.alloc (.cells (blkL (Sha.zeros 32) 0).toArray 60), Wc, Wc.setRow Wa.heap.size (blkL prev n).toArray, (Wc.setRow Wa.heap.size (blkL prev n).toArray).setRow (Wa.heap.size + 1) (bytesA x), rfl, rfl, by simp, hWc.symm, ?_, ?_, ?_, ?_, ?_⟩
  · exact blk_store60 hn1 (by rw [List.size_toArray, blkL_length _ _ (by rfl)]) hp
  · exact store28 ((setRow_other _ _ _ _ (by omega)).trans hn2) (by rw [size_bytesA]; rfl) hx
  · exact below_setRow (below_setRow hbc (Nat.le_refl _) _) (by omega) _
  · exact (setRow_other _ _ _ _ (by omega)).trans (setRow_heap _ _ _ _ _ _ hn1)
  · exact setRow_heap _ _ _ _ _ _ ((setRow_other _ _ _ _ (by omega)).trans hn2)
end Go.Proofs.Ytdecbimklomdjaa
namespace Go.Proofs.Ytdecbimklomdjaa
open Go Go.RowKit Go.Shelf
theorem Moved.rowOf {p c most : Nat} {l : List (List UInt8 × Nat)} {v v' : Value} {w w' : World} (h : Moved p c v w v' w') (hp : PoolAt w p c v most l) {k : Nat} {cs : Array Value} {t : TypeId} {fr : Nat × Nat} (hk : w.heap[k]? = some (.cells cs t fr)) (h1 : t ≠ 139) (h2 : t ≠ 91) : w'.heap[k]? = some (.cells cs t fr) :=
  h.atPool hp hk h1 (by rintro rfl; have := hp.row; rw [hk] at this; injection this with this; injection this with _ h3 _; exact h2 h3)
/-- What was there stays. -/
structure Left (w w' : World) : Prop where
  os : w'.os = w.os
  output : w'.output = w.output
  size : w.heap.size ≤ w'.heap.size
  block : ∀ i, i < w.heap.size → w'.heap[i]? = w.heap[i]?
theorem Left.of_below {w w' : World} (h : Below w.heap.size w w') : Left w w' := ⟨h.os, h.output, h.size, h.block⟩
theorem Left.trans {a b c : World} (h : Left a b) (k : Left b c) : Left a c :=
  ⟨k.os.trans h.os, k.output.trans h.output, Nat.le_trans h.size k.size, fun i hi => (k.block i (Nat.lt_of_lt_of_le hi h.size)).trans (h.block i hi)⟩
theorem Left.below {a b c : World} (h : Left a b) (k : Below b.heap.size b c) : Left a c := h.trans (.of_below k)
theorem Left.frame {W w' : World} (h : Left W w') (may : MemPlace → Prop) : W.keptBut w' may := by
  refine ⟨h.os, h.output, fun i hi => ?_⟩
  rw [h.block i hi]
  split <;> simp_all
/-- .. behind a step on a pool that was made since. -/
structure Since (w : World) (p c : Nat) (v : Value) : Prop where
  p : w.heap.size ≤ p
  c : w.heap.size ≤ c
  v : ∀ k, v.ownBlock = some k → w.heap.size ≤ k
theorem Left.moved {w W W' : World} {p c : Nat} {v v' : Value} (h : Left w W) (hs : Since w p c v) (hm : Moved p c v W v' W') : Left w W' ∧ Since w p c v' := by
  have h1 := hs.p
  have h2 := hs.c
  refine ⟨⟨hm.kept.1.trans h.os, hm.kept.2.trans h.output, Nat.le_trans h.size hm.size, fun i hi => (hm.block i (by have := h.size; omega) (by omega) (by omega) (fun e => by have := hs.v i e; omega)).trans (h.block i hi)⟩, h1, h2, ?_⟩
  rcases hm.row with e | e
  · rw [e]; exact hs.v
  · intro k hk; have := e k hk; have := h.size; omega
set_option maxRecDepth 100000 in
set_option maxHeartbeats 2000000 in
theorem alive57_any (w : World) : Calls Try.prog 57 #[] w fun e w' => e = .returned (.bool true) ∧ Left w w' := by
  obtain ⟨x, hx⟩ : ∃ x, x = exX := ⟨_, rfl⟩
  have HE1 := Lib.hid (show hh (fst8 1) 0 = x from hx.symm)
  have HXL := Lib.hid (show x.length = 32 by rw [hx]; exact exX_length)
  have HYX := Lib.hid (show hh x 1 ≠ x by rw [hx]; exact ex_yx)
  have HDY := Lib.hid (show hh (fst8 9) 2 ≠ hh x 1 by rw [hx]; exact ex_dy)
  have HDX := Lib.hid (show hh (fst8 9) 2 ≠ x by rw [hx]; exact ex_dx)
  have HA2 : Hid (atL (hh (fst8 1) 0) [(x, 1)] < 0) := Lib.hid (firstAt_neg (by
    intro b hb
    have : b = (x, 1) := by simpa using hb
    subst this
    rw [HE1.out]; simpa using HYX.out))
  have HA3 : Hid (atL (hh (fst8 9) 2) [(x, 1), (fst8 1, 0)] < 0) := Lib.hid (firstAt_neg (by
    intro b hb
    simp only [List.mem_cons, List.not_mem_nil, or_false] at hb
    rcases hb with rfl | rfl
    · simpa using fun e => HDY.out e.symm
    · rw [HE1.out]; simpa using fun e => HDX.out e.symm))
  clear hx
  go_enter Try.func57, Try.ntmps57
  go_upto_region 1 with (fail)
  refine wp_region_lit ?_
  refine wpList_call rfl (f := 37) (args := #[.int .i64 ((2 : Nat) : Int)]) (by kernel_rfl) ((new_ok 2 (by omega) w).mono ?_)
  rintro e W1 ⟨rfl, hp1, hb1⟩
  refine ⟨_, rfl, ?_⟩
  try (conv => lhs; change (Act.mk #[_,_,_,_,_,_,_,_,_,_,_,_,_,_,_,_,_,_,_,_,_,_,_,_,_,_,_,_,_,_,_,_,_,_,_,_,_,_,_,_,_,_,_,_,_,_,_,_,_,_,_,_,_,_,_,_,_,_,_,_,_,_,_,_,_,_,_,_,_] _))
  obtain ⟨p, hpe⟩ : ∃ p, p = w.heap.size + 1 := ⟨_, rfl⟩
  obtain ⟨c, hce⟩ : ∃ c, c = w.heap.size := ⟨_, rfl⟩
  rw [← hpe, ← hce] at hp1
  rw [← hpe]
  have HL := Lib.hid (Left.of_below hb1)
  have HS : Hid (Since w p c (.slice none 0 0)) := Lib.hid ⟨by omega, by omega, by rintro k hk; cases hk⟩
  have HP := Lib.hid hp1
  clear hpe hce hp1 hb1
  refine wpList_one (v := .tuple #[.pointer (some ⟨p, 0, none⟩), .int .i64 0]) (w' := W1) rfl (by kernel_rfl) ?_
  try (conv => lhs; change (Act.mk #[_,_,_,_,_,_,_,_,_,_,_,_,_,_,_,_,_,_,_,_,_,_,_,_,_,_,_,_,_,_,_,_,_,_,_,_,_,_,_,_,_,_,_,_,_,_,_,_,_,_,_,_,_,_,_,_,_,_,_,_,_,_,_,_,_,_,_,_,_] _))
  refine wpList_one (v := .pointer (some ⟨p, 0, none⟩)) (w' := W1) rfl (by kernel_rfl) ?_
  try (conv => lhs; change (Act.mk #[_,_,_,_,_,_,_,_,_,_,_,_,_,_,_,_,_,_,_,_,_,_,_,_,_,_,_,_,_,_,_,_,_,_,_,_,_,_,_,_,_,_,_,_,_,_,_,_,_,_,_,_,_,_,_,_,_,_,_,_,_,_,_,_,_,_,_,_,_] _))
  refine wpList_one (v := .int .i64 0) (w' := W1) rfl (by kernel_rfl) ?_
  try (conv => lhs; change (Act.mk #[_,_,_,_,_,_,_,_,_,_,_,_,_,_,_,_,_,_,_,_,_,_,_,_,_,_,_,_,_,_,_,_,_,_,_,_,_,_,_,_,_,_,_,_,_,_,_,_,_,_,_,_,_,_,_,_,_,_,_,_,_,_,_,_,_,_,_,_,_] _))
  refine wpList_one (v := .pointer (some ⟨p, 0, none⟩)) (w' := W1) rfl (by kernel_rfl) ?_
  try (conv => lhs; change (Act.mk #[_,_,_,_,_,_,_,_,_,_,_,_,_,_,_,_,_,_,_,_,_,_,_,_,_,_,_,_,_,_,_,_,_,_,_,_,_,_,_,_,_,_,_,_,_,_,_,_,_,_,_,_,_,_,_,_,_,_,_,_,_,_,_,_,_,_,_,_,_] _))
  refine wpList_one (v := .int .i64 0) (w' := W1) rfl (by kernel_rfl) ?_
  try (conv => lhs; change (Act.mk #[_,_,_,_,_,_,_,_,_,_,_,_,_,_,_,_,_,_,_,_,_,_,_,_,_,_,_,_,_,_,_,_,_,_,_,_,_,_,_,_,_,_,_,_,_,_,_,_,_,_,_,_,_,_,_,_,_,_,_,_,_,_,_,_,_,_,_,_,_] _))
  go_upto_region 2 with (fail)
  refine wp_region_lit ?_
  refine wpList_one (v := .agg (bytesA (fst8 1))) (w' := W1) rfl (by kernel_rfl) ?_
  try (conv => lhs; change (Act.mk #[_,_,_,_,_,_,_,_,_,_,_,_,_,_,_,_,_,_,_,_,_,_,_,_,_,_,_,_,_,_,_,_,_,_,_,_,_,_,_,_,_,_,_,_,_,_,_,_,_,_,_,_,_,_,_,_,_,_,_,_,_,_,_,_,_,_,_,_,_] _))
  refine wpList_call rfl (f := 46) (args := #[.agg (bytesA (fst8 1)), .int .u32 ((0 : Nat) : Int)]) (by kernel_rfl) ((behind27_any (fst8 1) 0 (by rfl) (by omega) W1).mono ?_)
  rintro e Wa2 ⟨rfl, hb⟩
  refine ⟨_, rfl, ?_⟩
  try (conv => lhs; change (Act.mk #[_,_,_,_,_,_,_,_,_,_,_,_,_,_,_,_,_,_,_,_,_,_,_,_,_,_,_,_,_,_,_,_,_,_,_,_,_,_,_,_,_,_,_,_,_,_,_,_,_,_,_,_,_,_,_,_,_,_,_,_,_,_,_,_,_,_,_,_,_] _))
  rw [HE1.out]
  refine wpList_one (v := .tuple #[.agg (blkL (fst8 1) 0).toArray, .agg (bytesA (x))]) (w' := Wa2) rfl (by kernel_rfl) ?_
  try (conv => lhs; change (Act.mk #[_,_,_,_,_,_,_,_,_,_,_,_,_,_,_,_,_,_,_,_,_,_,_,_,_,_,_,_,_,_,_,_,_,_,_,_,_,_,_,_,_,_,_,_,_,_,_,_,_,_,_,_,_,_,_,_,_,_,_,_,_,_,_,_,_,_,_,_,_] _))
  refine wpList_one (v := .agg (blkL (fst8 1) 0).toArray) (w' := Wa2) rfl (by kernel_rfl) ?_
  try (conv => lhs; change (Act.mk #[_,_,_,_,_,_,_,_,_,_,_,_,_,_,_,_,_,_,_,_,_,_,_,_,_,_,_,_,_,_,_,_,_,_,_,_,_,_,_,_,_,_,_,_,_,_,_,_,_,_,_,_,_,_,_,_,_,_,_,_,_,_,_,_,_,_,_,_,_] _))
  refine wpList_one (v := .agg (bytesA (x))) (w' := Wa2) rfl (by kernel_rfl) ?_
  try (conv => lhs; change (Act.mk #[_,_,_,_,_,_,_,_,_,_,_,_,_,_,_,_,_,_,_,_,_,_,_,_,_,_,_,_,_,_,_,_,_,_,_,_,_,_,_,_,_,_,_,_,_,_,_,_,_,_,_,_,_,_,_,_,_,_,_,_,_,_,_,_,_,_,_,_,_] _))
  obtain ⟨k2, Wb, Wc, Wd, W2, hk, hWb, hzb, hWc, hs1, hs2, hbl, hr1, hr2⟩ := two_rows Wa2 (fst8 1) 0 (x) (by rfl) HXL.out
  refine wpList_one (v := .pointer (some ⟨k2, 0, none⟩)) (w' := Wb) rfl (by rw [hk, hWb]; kernel_rfl) ?_
  try (conv => lhs; change (Act.mk #[_,_,_,_,_,_,_,_,_,_,_,_,_,_,_,_,_,_,_,_,_,_,_,_,_,_,_,_,_,_,_,_,_,_,_,_,_,_,_,_,_,_,_,_,_,_,_,_,_,_,_,_,_,_,_,_,_,_,_,_,_,_,_,_,_,_,_,_,_] _))
  refine wpList_one (v := .pointer (some ⟨k2 + 1, 0, none⟩)) (w' := Wc) rfl (by rw [hWc, ← hzb]; kernel_rfl) ?_
  try (conv => lhs; change (Act.mk #[_,_,_,_,_,_,_,_,_,_,_,_,_,_,_,_,_,_,_,_,_,_,_,_,_,_,_,_,_,_,_,_,_,_,_,_,_,_,_,_,_,_,_,_,_,_,_,_,_,_,_,_,_,_,_,_,_,_,_,_,_,_,_,_,_,_,_,_,_] _))
  refine wpList_put rfl 60 (.tmp 3) (.tmp 19) rfl (A := ⟨k2, 0, none⟩) (v := .agg (blkL (fst8 1) 0).toArray) rfl rfl hs1 ?_
  try (conv => lhs; change (Act.mk #[_,_,_,_,_,_,_,_,_,_,_,_,_,_,_,_,_,_,_,_,_,_,_,_,_,_,_,_,_,_,_,_,_,_,_,_,_,_,_,_,_,_,_,_,_,_,_,_,_,_,_,_,_,_,_,_,_,_,_,_,_,_,_,_,_,_,_,_,_] _))
  refine wpList_put rfl 28 (.tmp 4) (.tmp 20) rfl (A := ⟨k2 + 1, 0, none⟩) (v := .agg (bytesA (x))) rfl rfl hs2 ?_
  try (conv => lhs; change (Act.mk #[_,_,_,_,_,_,_,_,_,_,_,_,_,_,_,_,_,_,_,_,_,_,_,_,_,_,_,_,_,_,_,_,_,_,_,_,_,_,_,_,_,_,_,_,_,_,_,_,_,_,_,_,_,_,_,_,_,_,_,_,_,_,_,_,_,_,_,_,_] _))
  have hbb := hb.trans (hbl.mono hb.size)
  have HL := Lib.hid (HL.out.below hbb)
  have HP := Lib.hid (HP.out.below hbb)
  have HB2 := Lib.hid hr1
  have HH2 := Lib.hid hr2
  clear hb hbl hbb hr1 hr2 hk hWb hzb hWc hs1 hs2
  go_upto_region 3 with (fail)
  refine wp_region_lit ?_
  refine wpList_get rfl 28 (.tmp 4) rfl (A := ⟨k2 + 1, 0, none⟩) rfl (load28 HH2.out HXL.out) ?_
  try (conv => lhs; change (Act.mk #[_,_,_,_,_,_,_,_,_,_,_,_,_,_,_,_,_,_,_,_,_,_,_,_,_,_,_,_,_,_,_,_,_,_,_,_,_,_,_,_,_,_,_,_,_,_,_,_,_,_,_,_,_,_,_,_,_,_,_,_,_,_,_,_,_,_,_,_,_] _))
  refine wpList_call rfl (f := 46) (args := #[.agg (bytesA (x)), .int .u32 ((1 : Nat) : Int)]) (by kernel_rfl) ((behind27_any (x) 1 HXL.out (by omega) W2).mono ?_)
  rintro e Wa3 ⟨rfl, hb⟩
  refine ⟨_, rfl, ?_⟩
  try (conv => lhs; change (Act.mk #[_,_,_,_,_,_,_,_,_,_,_,_,_,_,_,_,_,_,_,_,_,_,_,_,_,_,_,_,_,_,_,_,_,_,_,_,_,_,_,_,_,_,_,_,_,_,_,_,_,_,_,_,_,_,_,_,_,_,_,_,_,_,_,_,_,_,_,_,_] _))
  refine wpList_one (v := .tuple #[.agg (blkL (x) 1).toArray, .agg (bytesA (hh x 1))]) (w' := Wa3) rfl (by kernel_rfl) ?_
  try (conv => lhs; change (Act.mk #[_,_,_,_,_,_,_,_,_,_,_,_,_,_,_,_,_,_,_,_,_,_,_,_,_,_,_,_,_,_,_,_,_,_,_,_,_,_,_,_,_,_,_,_,_,_,_,_,_,_,_,_,_,_,_,_,_,_,_,_,_,_,_,_,_,_,_,_,_] _))
  refine wpList_one (v := .agg (blkL (x) 1).toArray) (w' := Wa3) rfl (by kernel_rfl) ?_
  try (conv => lhs; change (Act.mk #[_,_,_,_,_,_,_,_,_,_,_,_,_,_,_,_,_,_,_,_,_,_,_,_,_,_,_,_,_,_,_,_,_,_,_,_,_,_,_,_,_,_,_,_,_,_,_,_,_,_,_,_,_,_,_,_,_,_,_,_,_,_,_,_,_,_,_,_,_] _))
  refine wpList_one (v := .agg (bytesA (hh x 1))) (w' := Wa3) rfl (by kernel_rfl) ?_
  try (conv => lhs; change (Act.mk #[_,_,_,_,_,_,_,_,_,_,_,_,_,_,_,_,_,_,_,_,_,_,_,_,_,_,_,_,_,_,_,_,_,_,_,_,_,_,_,_,_,_,_,_,_,_,_,_,_,_,_,_,_,_,_,_,_,_,_,_,_,_,_,_,_,_,_,_,_] _))
  obtain ⟨k3, Wb, Wc, Wd, W3, hk, hWb, hzb, hWc, hs1, hs2, hbl, hr1, hr2⟩ := two_rows Wa3 (x) 1 (hh x 1) HXL.out (hh_length _ _)
  refine wpList_one (v := .pointer (some ⟨k3, 0, none⟩)) (w' := Wb) rfl (by rw [hk, hWb]; kernel_rfl) ?_
  try (conv => lhs; change (Act.mk #[_,_,_,_,_,_,_,_,_,_,_,_,_,_,_,_,_,_,_,_,_,_,_,_,_,_,_,_,_,_,_,_,_,_,_,_,_,_,_,_,_,_,_,_,_,_,_,_,_,_,_,_,_,_,_,_,_,_,_,_,_,_,_,_,_,_,_,_,_] _))
  refine wpList_one (v := .pointer (some ⟨k3 + 1, 0, none⟩)) (w' := Wc) rfl (by rw [hWc, ← hzb]; kernel_rfl) ?_
  try (conv => lhs; change (Act.mk #[_,_,_,_,_,_,_,_,_,_,_,_,_,_,_,_,_,_,_,_,_,_,_,_,_,_,_,_,_,_,_,_,_,_,_,_,_,_,_,_,_,_,_,_,_,_,_,_,_,_,_,_,_,_,_,_,_,_,_,_,_,_,_,_,_,_,_,_,_] _))
  refine wpList_put rfl 60 (.tmp 5) (.tmp 24) rfl (A := ⟨k3, 0, none⟩) (v := .agg (blkL (x) 1).toArray) rfl rfl hs1 ?_
  try (conv => lhs; change (Act.mk #[_,_,_,_,_,_,_,_,_,_,_,_,_,_,_,_,_,_,_,_,_,_,_,_,_,_,_,_,_,_,_,_,_,_,_,_,_,_,_,_,_,_,_,_,_,_,_,_,_,_,_,_,_,_,_,_,_,_,_,_,_,_,_,_,_,_,_,_,_] _))
  refine wpList_put rfl 28 (.tmp 6) (.tmp 25) rfl (A := ⟨k3 + 1, 0, none⟩) (v := .agg (bytesA (hh x 1))) rfl rfl hs2 ?_
  try (conv => lhs; change (Act.mk #[_,_,_,_,_,_,_,_,_,_,_,_,_,_,_,_,_,_,_,_,_,_,_,_,_,_,_,_,_,_,_,_,_,_,_,_,_,_,_,_,_,_,_,_,_,_,_,_,_,_,_,_,_,_,_,_,_,_,_,_,_,_,_,_,_,_,_,_,_] _))
  have hbb := hb.trans (hbl.mono hb.size)
  have HL := Lib.hid (HL.out.below hbb)
  have HP := Lib.hid (HP.out.below hbb)
  have HB2 := Lib.hid (block_below' hbb HB2.out)
  have HH2 := Lib.hid (block_below' hbb HH2.out)
  have HB3 := Lib.hid hr1
  have HH3 := Lib.hid hr2
  clear hb hbl hbb hr1 hr2 hk hWb hzb hWc hs1 hs2
  go_upto_region 4 with (fail)
  refine wp_region_lit ?_
  refine wpList_one (v := .agg (bytesA (fst8 9))) (w' := W3) rfl (by kernel_rfl) ?_
  try (conv => lhs; change (Act.mk #[_,_,_,_,_,_,_,_,_,_,_,_,_,_,_,_,_,_,_,_,_,_,_,_,_,_,_,_,_,_,_,_,_,_,_,_,_,_,_,_,_,_,_,_,_,_,_,_,_,_,_,_,_,_,_,_,_,_,_,_,_,_,_,_,_,_,_,_,_] _))
  refine wpList_call rfl (f := 46) (args := #[.agg (bytesA (fst8 9)), .int .u32 ((2 : Nat) : Int)]) (by kernel_rfl) ((behind27_any (fst8 9) 2 (by rfl) (by omega) W3).mono ?_)
  rintro e Wa4 ⟨rfl, hb⟩
  refine ⟨_, rfl, ?_⟩
  try (conv => lhs; change (Act.mk #[_,_,_,_,_,_,_,_,_,_,_,_,_,_,_,_,_,_,_,_,_,_,_,_,_,_,_,_,_,_,_,_,_,_,_,_,_,_,_,_,_,_,_,_,_,_,_,_,_,_,_,_,_,_,_,_,_,_,_,_,_,_,_,_,_,_,_,_,_] _))
  refine wpList_one (v := .tuple #[.agg (blkL (fst8 9) 2).toArray, .agg (bytesA (hh (fst8 9) 2))]) (w' := Wa4) rfl (by kernel_rfl) ?_
  try (conv => lhs; change (Act.mk #[_,_,_,_,_,_,_,_,_,_,_,_,_,_,_,_,_,_,_,_,_,_,_,_,_,_,_,_,_,_,_,_,_,_,_,_,_,_,_,_,_,_,_,_,_,_,_,_,_,_,_,_,_,_,_,_,_,_,_,_,_,_,_,_,_,_,_,_,_] _))
  refine wpList_one (v := .agg (blkL (fst8 9) 2).toArray) (w' := Wa4) rfl (by kernel_rfl) ?_
  try (conv => lhs; change (Act.mk #[_,_,_,_,_,_,_,_,_,_,_,_,_,_,_,_,_,_,_,_,_,_,_,_,_,_,_,_,_,_,_,_,_,_,_,_,_,_,_,_,_,_,_,_,_,_,_,_,_,_,_,_,_,_,_,_,_,_,_,_,_,_,_,_,_,_,_,_,_] _))
  refine wpList_one (v := .agg (bytesA (hh (fst8 9) 2))) (w' := Wa4) rfl (by kernel_rfl) ?_
  try (conv => lhs; change (Act.mk #[_,_,_,_,_,_,_,_,_,_,_,_,_,_,_,_,_,_,_,_,_,_,_,_,_,_,_,_,_,_,_,_,_,_,_,_,_,_,_,_,_,_,_,_,_,_,_,_,_,_,_,_,_,_,_,_,_,_,_,_,_,_,_,_,_,_,_,_,_] _))
  obtain ⟨k4, Wb, Wc, Wd, W4, hk, hWb, hzb, hWc, hs1, hs2, hbl, hr1, hr2⟩ := two_rows Wa4 (fst8 9) 2 (hh (fst8 9) 2) (by rfl) (hh_length _ _)
  refine wpList_one (v := .pointer (some ⟨k4, 0, none⟩)) (w' := Wb) rfl (by rw [hk, hWb]; kernel_rfl) ?_
  try (conv => lhs; change (Act.mk #[_,_,_,_,_,_,_,_,_,_,_,_,_,_,_,_,_,_,_,_,_,_,_,_,_,_,_,_,_,_,_,_,_,_,_,_,_,_,_,_,_,_,_,_,_,_,_,_,_,_,_,_,_,_,_,_,_,_,_,_,_,_,_,_,_,_,_,_,_] _))
  refine wpList_one (v := .pointer (some ⟨k4 + 1, 0, none⟩)) (w' := Wc) rfl (by rw [hWc, ← hzb]; kernel_rfl) ?_
  try (conv => lhs; change (Act.mk #[_,_,_,_,_,_,_,_,_,_,_,_,_,_,_,_,_,_,_,_,_,_,_,_,_,_,_,_,_,_,_,_,_,_,_,_,_,_,_,_,_,_,_,_,_,_,_,_,_,_,_,_,_,_,_,_,_,_,_,_,_,_,_,_,_,_,_,_,_] _))
  refine wpList_put rfl 60 (.tmp 7) (.tmp 29) rfl (A := ⟨k4, 0, none⟩) (v := .agg (blkL (fst8 9) 2).toArray) rfl rfl hs1 ?_
  try (conv => lhs; change (Act.mk #[_,_,_,_,_,_,_,_,_,_,_,_,_,_,_,_,_,_,_,_,_,_,_,_,_,_,_,_,_,_,_,_,_,_,_,_,_,_,_,_,_,_,_,_,_,_,_,_,_,_,_,_,_,_,_,_,_,_,_,_,_,_,_,_,_,_,_,_,_] _))
  refine wpList_put rfl 28 (.tmp 8) (.tmp 30) rfl (A := ⟨k4 + 1, 0, none⟩) (v := .agg (bytesA (hh (fst8 9) 2))) rfl rfl hs2 ?_
  try (conv => lhs; change (Act.mk #[_,_,_,_,_,_,_,_,_,_,_,_,_,_,_,_,_,_,_,_,_,_,_,_,_,_,_,_,_,_,_,_,_,_,_,_,_,_,_,_,_,_,_,_,_,_,_,_,_,_,_,_,_,_,_,_,_,_,_,_,_,_,_,_,_,_,_,_,_] _))
  have hbb := hb.trans (hbl.mono hb.size)
  have HL := Lib.hid (HL.out.below hbb)
  have HP := Lib.hid (HP.out.below hbb)
  have HB2 := Lib.hid (block_below' hbb HB2.out)
  have HH2 := Lib.hid (block_below' hbb HH2.out)
  have HB3 := Lib.hid (block_below' hbb HB3.out)
  have HH3 := Lib.hid (block_below' hbb HH3.out)
  have HB4 := Lib.hid hr1
  have HH4 := Lib.hid hr2
  clear hb hbl hbb hr1 hr2 hk hWb hzb hWc hs1 hs2
  go_upto_region 5 with (fail)
  obtain ⟨W5, hW5⟩ : ∃ W5, W5 = W4.drew := ⟨_, rfl⟩
  have hb5 : Below W4.heap.size W4 W5 := hW5 ▸ (Below.refl _ _).drew
  refine wp_region_held_drew (S := (fun w' => w'.heap[k2]? = some (.cells (blkL (fst8 1) 0).toArray 60 (0, 0)) ∧ w'.heap[k3]? = some (.cells (blkL x 1).toArray 60 (0, 0)) ∧ w'.heap[k4]? = some (.cells (blkL (fst8 9) 2).toArray 60 (0, 0)) ∧ w'.heap[k2 + 1]? = some (.cells (bytesA x) 28 (0, 0)))) (by kernel_rfl) (hW5 ▸ ⟨block_below' hb5 HB2.out, block_below' hb5 HB3.out, block_below' hb5 HB4.out, block_below' hb5 HH2.out⟩) (fun hS => ?_)
  rw [← hW5] at hS ⊢
  have HP := Lib.hid (HP.out.below hb5)
  have HL := Lib.hid (HL.out.below hb5)
  clear hb5 hW5 HB2 HB3 HB4 HH2 HH3 HH4
  try (conv => lhs; change (Act.mk #[_,_,_,_,_,_,_,_,_,_,_,_,_,_,_,_,_,_,_,_,_,_,_,_,_,_,_,_,_,_,_,_,_,_,_,_,_,_,_,_,_,_,_,_,_,_,_,_,_,_,_,_,_,_,_,_,_,_,_,_,_,_,_,_,_,_,_,_,_] _))
  refine wpAnyH_take (i := 0) (v := .pointer (some ⟨p, 0, none⟩)) rfl (by kernel_rfl) (by kernel_rfl) (by kernel_rfl) (fun _ _ _ h => h) (held_pure rfl (fun w => by kernel_rfl)) hS ?_
  try (conv => lhs; change (Act.mk #[_,_,_,_,_,_,_,_,_,_,_,_,_,_,_,_,_,_,_,_,_,_,_,_,_,_,_,_,_,_,_,_,_,_,_,_,_,_,_,_,_,_,_,_,_,_,_,_,_,_,_,_,_,_,_,_,_,_,_,_,_,_,_,_,_,_,_,_,_] _))
  refine wpAnyH_take (i := 1) (v := .agg (blkL x 1).toArray) rfl (by kernel_rfl) (by kernel_rfl) (by kernel_rfl) (fun _ _ _ h => h) (held_load rfl 60 (.tmp 5) rfl (A := ⟨k3, 0, none⟩) rfl (fun w hw => blk_load60 hw.2.1 HXL.out)) hS ?_
  try (conv => lhs; change (Act.mk #[_,_,_,_,_,_,_,_,_,_,_,_,_,_,_,_,_,_,_,_,_,_,_,_,_,_,_,_,_,_,_,_,_,_,_,_,_,_,_,_,_,_,_,_,_,_,_,_,_,_,_,_,_,_,_,_,_,_,_,_,_,_,_,_,_,_,_,_,_] _))
  refine wpAnyH_take (i := 3) (v := .pointer (some ⟨p, 0, none⟩)) rfl (by kernel_rfl) (by kernel_rfl) (by kernel_rfl) (fun _ _ _ h => h) (held_pure rfl (fun w => by kernel_rfl)) hS ?_
  try (conv => lhs; change (Act.mk #[_,_,_,_,_,_,_,_,_,_,_,_,_,_,_,_,_,_,_,_,_,_,_,_,_,_,_,_,_,_,_,_,_,_,_,_,_,_,_,_,_,_,_,_,_,_,_,_,_,_,_,_,_,_,_,_,_,_,_,_,_,_,_,_,_,_,_,_,_] _))
  refine wpAnyH_take (i := 4) (v := .agg (blkL (fst8 1) 0).toArray) rfl (by kernel_rfl) (by kernel_rfl) (by kernel_rfl) (fun _ _ _ h => h) (held_load rfl 60 (.tmp 3) rfl (A := ⟨k2, 0, none⟩) rfl (fun w hw => blk_load60 hw.1 (by rfl))) hS ?_
  try (conv => lhs; change (Act.mk #[_,_,_,_,_,_,_,_,_,_,_,_,_,_,_,_,_,_,_,_,_,_,_,_,_,_,_,_,_,_,_,_,_,_,_,_,_,_,_,_,_,_,_,_,_,_,_,_,_,_,_,_,_,_,_,_,_,_,_,_,_,_,_,_,_,_,_,_,_] _))
  refine wpAnyH_take (i := 6) (v := .pointer (some ⟨p, 0, none⟩)) rfl (by kernel_rfl) (by kernel_rfl) (by kernel_rfl) (fun _ _ _ h => h) (held_pure rfl (fun w => by kernel_rfl)) hS ?_
  try (conv => lhs; change (Act.mk #[_,_,_,_,_,_,_,_,_,_,_,_,_,_,_,_,_,_,_,_,_,_,_,_,_,_,_,_,_,_,_,_,_,_,_,_,_,_,_,_,_,_,_,_,_,_,_,_,_,_,_,_,_,_,_,_,_,_,_,_,_,_,_,_,_,_,_,_,_] _))
  refine wpAnyH_take (i := 7) (v := .agg (blkL (fst8 9) 2).toArray) rfl (by kernel_rfl) (by kernel_rfl) (by kernel_rfl) (fun _ _ _ h => h) (held_load rfl 60 (.tmp 7) rfl (A := ⟨k4, 0, none⟩) rfl (fun w hw => blk_load60 hw.2.2.1 (by rfl))) hS ?_
  try (conv => lhs; change (Act.mk #[_,_,_,_,_,_,_,_,_,_,_,_,_,_,_,_,_,_,_,_,_,_,_,_,_,_,_,_,_,_,_,_,_,_,_,_,_,_,_,_,_,_,_,_,_,_,_,_,_,_,_,_,_,_,_,_,_,_,_,_,_,_,_,_,_,_,_,_,_] _))
  refine wpAnyH_ready (rs := [2]) (by kernel_rfl) (by simp) ?_
  refine AllReadyH.cons rfl (fun K hK => ?_) AllReadyH.nil
  refine step_call rfl (f := 47) (args := #[.pointer (some ⟨p, 0, none⟩), .agg (blkL x 1).toArray]) (R := fun u w' => u = .int .i64 0 ∧ ∃ v', PoolAt w' p c v' 2 [(x, 1)] ∧ Moved p c (.slice none 0 0) W5 v' w') (by kernel_rfl) ((put_room p c _ 2 [] x 1 HXL.out (by omega) (firstAt_neg (by simp)) (by decide) W5 HP.out).mono (by rintro e w' ⟨rfl, h⟩; exact ⟨_, rfl, rfl, h⟩)) ?_
  rintro u W6 ⟨rfl, v6, hp, hm⟩
  have hSn := And.intro (hm.rowOf HP.out hS.1 (by decide) (by decide)) (And.intro (hm.rowOf HP.out hS.2.1 (by decide) (by decide)) (And.intro (hm.rowOf HP.out hS.2.2.1 (by decide) (by decide)) (hm.rowOf HP.out hS.2.2.2 (by decide) (by decide))))
  have hl := HL.out.moved HS.out hm
  have HL := Lib.hid hl.1
  have HS := Lib.hid hl.2
  have HP := Lib.hid hp
  clear hl hp hm
  refine hK.out _ _ hSn (fun hS => ?_); clear hK K
  try (conv => lhs; change (Act.mk #[_,_,_,_,_,_,_,_,_,_,_,_,_,_,_,_,_,_,_,_,_,_,_,_,_,_,_,_,_,_,_,_,_,_,_,_,_,_,_,_,_,_,_,_,_,_,_,_,_,_,_,_,_,_,_,_,_,_,_,_,_,_,_,_,_,_,_,_,_] _))
  clear hSn
  refine wpAnyH_ready (rs := [5]) (by kernel_rfl) (by simp) ?_
  refine AllReadyH.cons rfl (fun K hK => ?_) AllReadyH.nil
  refine step_call rfl (f := 47) (args := #[.pointer (some ⟨p, 0, none⟩), .agg (blkL (fst8 1) 0).toArray]) (R := fun u w' => u = .int .i64 0 ∧ ∃ v', PoolAt w' p c v' 2 [(x, 1), (fst8 1, 0)] ∧ Moved p c v6 W6 v' w') (by kernel_rfl) ((put_room p c v6 2 [(x, 1)] (fst8 1) 0 (by rfl) (by omega) HA2.out (by simp) W6 HP.out).mono (by rintro e w' ⟨rfl, h⟩; exact ⟨_, rfl, rfl, h⟩)) ?_
  rintro u W7 ⟨rfl, v7, hp, hm⟩
  have hSn := And.intro (hm.rowOf HP.out hS.1 (by decide) (by decide)) (And.intro (hm.rowOf HP.out hS.2.1 (by decide) (by decide)) (And.intro (hm.rowOf HP.out hS.2.2.1 (by decide) (by decide)) (hm.rowOf HP.out hS.2.2.2 (by decide) (by decide))))
  have hl := HL.out.moved HS.out hm
  have HL := Lib.hid hl.1
  have HS := Lib.hid hl.2
  have HP := Lib.hid hp
  clear hl hp hm
  refine hK.out _ _ hSn (fun hS => ?_); clear hK K
  try (conv => lhs; change (Act.mk #[_,_,_,_,_,_,_,_,_,_,_,_,_,_,_,_,_,_,_,_,_,_,_,_,_,_,_,_,_,_,_,_,_,_,_,_,_,_,_,_,_,_,_,_,_,_,_,_,_,_,_,_,_,_,_,_,_,_,_,_,_,_,_,_,_,_,_,_,_] _))
  clear hSn
  refine wpAnyH_ready (rs := [8]) (by kernel_rfl) (by simp) ?_
  refine AllReadyH.cons rfl (fun K hK => ?_) AllReadyH.nil
  refine step_call rfl (f := 47) (args := #[.pointer (some ⟨p, 0, none⟩), .agg (blkL (fst8 9) 2).toArray]) (R := fun u w' => u = .int .i64 270 ∧ Below W7.heap.size W7 w') (by kernel_rfl) ((put_full p c v7 2 [(x, 1), (fst8 1, 0)] (fst8 9) 2 (by rfl) (by omega) HA3.out (by rfl) W7 HP.out).mono (by rintro e w' ⟨rfl, h⟩; exact ⟨_, rfl, rfl, h⟩)) ?_
  rintro u W8 ⟨rfl, hb⟩
  have hSn := And.intro (block_below' hb hS.1) (And.intro (block_below' hb hS.2.1) (And.intro (block_below' hb hS.2.2.1) (block_below' hb hS.2.2.2)))
  have HL := Lib.hid (HL.out.below hb)
  have HP := Lib.hid (HP.out.below hb)
  clear hb
  refine hK.out _ _ hSn (fun hS => ?_); clear hK K
  try (conv => lhs; change (Act.mk #[_,_,_,_,_,_,_,_,_,_,_,_,_,_,_,_,_,_,_,_,_,_,_,_,_,_,_,_,_,_,_,_,_,_,_,_,_,_,_,_,_,_,_,_,_,_,_,_,_,_,_,_,_,_,_,_,_,_,_,_,_,_,_,_,_,_,_,_,_] _))
  clear hSn
  refine wpAnyH_take (i := 9) (v := .int .i64 0) rfl (by kernel_rfl) (by kernel_rfl) (by kernel_rfl) (fun _ _ _ h => h) (held_pure rfl (fun w => by kernel_rfl)) hS ?_
  try (conv => lhs; change (Act.mk #[_,_,_,_,_,_,_,_,_,_,_,_,_,_,_,_,_,_,_,_,_,_,_,_,_,_,_,_,_,_,_,_,_,_,_,_,_,_,_,_,_,_,_,_,_,_,_,_,_,_,_,_,_,_,_,_,_,_,_,_,_,_,_,_,_,_,_,_,_] _))
  refine wpAnyH_take (i := 10) (v := .int .i64 0) rfl (by kernel_rfl) (by kernel_rfl) (by kernel_rfl) (fun _ _ _ h => h) (held_pure rfl (fun w => by kernel_rfl)) hS ?_
  try (conv => lhs; change (Act.mk #[_,_,_,_,_,_,_,_,_,_,_,_,_,_,_,_,_,_,_,_,_,_,_,_,_,_,_,_,_,_,_,_,_,_,_,_,_,_,_,_,_,_,_,_,_,_,_,_,_,_,_,_,_,_,_,_,_,_,_,_,_,_,_,_,_,_,_,_,_] _))
  refine wpAnyH_take (i := 11) (v := .int .i64 270) rfl (by kernel_rfl) (by kernel_rfl) (by kernel_rfl) (fun _ _ _ h => h) (held_pure rfl (fun w => by kernel_rfl)) hS ?_
  try (conv => lhs; change (Act.mk #[_,_,_,_,_,_,_,_,_,_,_,_,_,_,_,_,_,_,_,_,_,_,_,_,_,_,_,_,_,_,_,_,_,_,_,_,_,_,_,_,_,_,_,_,_,_,_,_,_,_,_,_,_,_,_,_,_,_,_,_,_,_,_,_,_,_,_,_,_] _))
  refine wpAnyH_done (by kernel_rfl) ?_ _
  have HH := Lib.hid hS.2.2.2
  clear hS
  change Exit.then _ _ Exit.normal _ _
  go_upto_region 6 with (fail)
  refine wp_region_lit ?_
  refine wpList_one (v := .int .i64 0) (w' := W8) rfl (by kernel_rfl) ?_
  try (conv => lhs; change (Act.mk #[_,_,_,_,_,_,_,_,_,_,_,_,_,_,_,_,_,_,_,_,_,_,_,_,_,_,_,_,_,_,_,_,_,_,_,_,_,_,_,_,_,_,_,_,_,_,_,_,_,_,_,_,_,_,_,_,_,_,_,_,_,_,_,_,_,_,_,_,_] _))
  refine wpList_one (v := .bool true) (w' := W8) rfl (by kernel_rfl) ?_
  try (conv => lhs; change (Act.mk #[_,_,_,_,_,_,_,_,_,_,_,_,_,_,_,_,_,_,_,_,_,_,_,_,_,_,_,_,_,_,_,_,_,_,_,_,_,_,_,_,_,_,_,_,_,_,_,_,_,_,_,_,_,_,_,_,_,_,_,_,_,_,_,_,_,_,_,_,_] _))
  refine wpList_one (v := .bool true) (w' := W8) rfl (by kernel_rfl) ?_
  try (conv => lhs; change (Act.mk #[_,_,_,_,_,_,_,_,_,_,_,_,_,_,_,_,_,_,_,_,_,_,_,_,_,_,_,_,_,_,_,_,_,_,_,_,_,_,_,_,_,_,_,_,_,_,_,_,_,_,_,_,_,_,_,_,_,_,_,_,_,_,_,_,_,_,_,_,_] _))
  refine wpList_oneW (v := .int .i64 0) (w' := W8) (by kernel_rfl) (by kernel_rfl) ?_
  try (conv => lhs; change (Act.mk #[_,_,_,_,_,_,_,_,_,_,_,_,_,_,_,_,_,_,_,_,_,_,_,_,_,_,_,_,_,_,_,_,_,_,_,_,_,_,_,_,_,_,_,_,_,_,_,_,_,_,_,_,_,_,_,_,_,_,_,_,_,_,_,_,_,_,_,_,_] _))
  refine wpList_oneW (v := .bool true) (w' := W8) (by kernel_rfl) (by kernel_rfl) ?_
  try (conv => lhs; change (Act.mk #[_,_,_,_,_,_,_,_,_,_,_,_,_,_,_,_,_,_,_,_,_,_,_,_,_,_,_,_,_,_,_,_,_,_,_,_,_,_,_,_,_,_,_,_,_,_,_,_,_,_,_,_,_,_,_,_,_,_,_,_,_,_,_,_,_,_,_,_,_] _))
  refine wpList_one (v := .bool true) (w' := W8) rfl (by kernel_rfl) ?_
  try (conv => lhs; change (Act.mk #[_,_,_,_,_,_,_,_,_,_,_,_,_,_,_,_,_,_,_,_,_,_,_,_,_,_,_,_,_,_,_,_,_,_,_,_,_,_,_,_,_,_,_,_,_,_,_,_,_,_,_,_,_,_,_,_,_,_,_,_,_,_,_,_,_,_,_,_,_] _))
  refine wpList_one (v := .bool true) (w' := W8) rfl (by kernel_rfl) ?_
  try (conv => lhs; change (Act.mk #[_,_,_,_,_,_,_,_,_,_,_,_,_,_,_,_,_,_,_,_,_,_,_,_,_,_,_,_,_,_,_,_,_,_,_,_,_,_,_,_,_,_,_,_,_,_,_,_,_,_,_,_,_,_,_,_,_,_,_,_,_,_,_,_,_,_,_,_,_] _))
  refine wpList_oneW (v := .int .i64 0) (w' := W8) (by kernel_rfl) (by kernel_rfl) ?_
  try (conv => lhs; change (Act.mk #[_,_,_,_,_,_,_,_,_,_,_,_,_,_,_,_,_,_,_,_,_,_,_,_,_,_,_,_,_,_,_,_,_,_,_,_,_,_,_,_,_,_,_,_,_,_,_,_,_,_,_,_,_,_,_,_,_,_,_,_,_,_,_,_,_,_,_,_,_] _))
  refine wpList_oneW (v := .bool true) (w' := W8) (by kernel_rfl) (by kernel_rfl) ?_
  try (conv => lhs; change (Act.mk #[_,_,_,_,_,_,_,_,_,_,_,_,_,_,_,_,_,_,_,_,_,_,_,_,_,_,_,_,_,_,_,_,_,_,_,_,_,_,_,_,_,_,_,_,_,_,_,_,_,_,_,_,_,_,_,_,_,_,_,_,_,_,_,_,_,_,_,_,_] _))
  refine wpList_one (v := .bool true) (w' := W8) rfl (by kernel_rfl) ?_
  try (conv => lhs; change (Act.mk #[_,_,_,_,_,_,_,_,_,_,_,_,_,_,_,_,_,_,_,_,_,_,_,_,_,_,_,_,_,_,_,_,_,_,_,_,_,_,_,_,_,_,_,_,_,_,_,_,_,_,_,_,_,_,_,_,_,_,_,_,_,_,_,_,_,_,_,_,_] _))
  refine wpList_one (v := .bool true) (w' := W8) rfl (by kernel_rfl) ?_
  try (conv => lhs; change (Act.mk #[_,_,_,_,_,_,_,_,_,_,_,_,_,_,_,_,_,_,_,_,_,_,_,_,_,_,_,_,_,_,_,_,_,_,_,_,_,_,_,_,_,_,_,_,_,_,_,_,_,_,_,_,_,_,_,_,_,_,_,_,_,_,_,_,_,_,_,_,_] _))
  refine wpList_oneW (v := .int .i64 270) (w' := W8) (by kernel_rfl) (by kernel_rfl) ?_
  try (conv => lhs; change (Act.mk #[_,_,_,_,_,_,_,_,_,_,_,_,_,_,_,_,_,_,_,_,_,_,_,_,_,_,_,_,_,_,_,_,_,_,_,_,_,_,_,_,_,_,_,_,_,_,_,_,_,_,_,_,_,_,_,_,_,_,_,_,_,_,_,_,_,_,_,_,_] _))
  refine wpList_oneW (v := .bool true) (w' := W8) (by kernel_rfl) (by kernel_rfl) ?_
  try (conv => lhs; change (Act.mk #[_,_,_,_,_,_,_,_,_,_,_,_,_,_,_,_,_,_,_,_,_,_,_,_,_,_,_,_,_,_,_,_,_,_,_,_,_,_,_,_,_,_,_,_,_,_,_,_,_,_,_,_,_,_,_,_,_,_,_,_,_,_,_,_,_,_,_,_,_] _))
  refine wpList_one (v := .bool true) (w' := W8) rfl (by kernel_rfl) ?_
  try (conv => lhs; change (Act.mk #[_,_,_,_,_,_,_,_,_,_,_,_,_,_,_,_,_,_,_,_,_,_,_,_,_,_,_,_,_,_,_,_,_,_,_,_,_,_,_,_,_,_,_,_,_,_,_,_,_,_,_,_,_,_,_,_,_,_,_,_,_,_,_,_,_,_,_,_,_] _))
  refine wpList_one (v := .bool true) (w' := W8) rfl (by kernel_rfl) ?_
  try (conv => lhs; change (Act.mk #[_,_,_,_,_,_,_,_,_,_,_,_,_,_,_,_,_,_,_,_,_,_,_,_,_,_,_,_,_,_,_,_,_,_,_,_,_,_,_,_,_,_,_,_,_,_,_,_,_,_,_,_,_,_,_,_,_,_,_,_,_,_,_,_,_,_,_,_,_] _))
  refine wpList_oneW (v := .pointer (some ⟨p, 0, none⟩)) (w' := W8) (by kernel_rfl) (by kernel_rfl) ?_
  try (conv => lhs; change (Act.mk #[_,_,_,_,_,_,_,_,_,_,_,_,_,_,_,_,_,_,_,_,_,_,_,_,_,_,_,_,_,_,_,_,_,_,_,_,_,_,_,_,_,_,_,_,_,_,_,_,_,_,_,_,_,_,_,_,_,_,_,_,_,_,_,_,_,_,_,_,_] _))
  refine wpList_callW (by kernel_rfl) (f := 43) (args := #[.pointer (some ⟨p, 0, none⟩)]) (by kernel_rfl) ((room_live W8 p c v7 2 [(x, 1), (fst8 1, 0)] HP.out).mono ?_)
  rintro e W9 ⟨rfl, hb⟩
  refine ⟨_, rfl, ?_⟩
  try (conv => lhs; change (Act.mk #[_,_,_,_,_,_,_,_,_,_,_,_,_,_,_,_,_,_,_,_,_,_,_,_,_,_,_,_,_,_,_,_,_,_,_,_,_,_,_,_,_,_,_,_,_,_,_,_,_,_,_,_,_,_,_,_,_,_,_,_,_,_,_,_,_,_,_,_,_] _))
  have HL := Lib.hid (HL.out.below hb)
  have HP := Lib.hid (HP.out.below hb)
  have HH := Lib.hid (block_below' hb HH.out)
  clear hb
  refine wpList_oneW (v := .bool true) (w' := W9) (by kernel_rfl) (by kernel_rfl) ?_
  try (conv => lhs; change (Act.mk #[_,_,_,_,_,_,_,_,_,_,_,_,_,_,_,_,_,_,_,_,_,_,_,_,_,_,_,_,_,_,_,_,_,_,_,_,_,_,_,_,_,_,_,_,_,_,_,_,_,_,_,_,_,_,_,_,_,_,_,_,_,_,_,_,_,_,_,_,_] _))
  refine wpList_one (v := .bool true) (w' := W9) rfl (by kernel_rfl) ?_
  try (conv => lhs; change (Act.mk #[_,_,_,_,_,_,_,_,_,_,_,_,_,_,_,_,_,_,_,_,_,_,_,_,_,_,_,_,_,_,_,_,_,_,_,_,_,_,_,_,_,_,_,_,_,_,_,_,_,_,_,_,_,_,_,_,_,_,_,_,_,_,_,_,_,_,_,_,_] _))
  refine wpList_one (v := .bool true) (w' := W9) rfl (by kernel_rfl) ?_
  try (conv => lhs; change (Act.mk #[_,_,_,_,_,_,_,_,_,_,_,_,_,_,_,_,_,_,_,_,_,_,_,_,_,_,_,_,_,_,_,_,_,_,_,_,_,_,_,_,_,_,_,_,_,_,_,_,_,_,_,_,_,_,_,_,_,_,_,_,_,_,_,_,_,_,_,_,_] _))
  refine wpList_oneW (v := .pointer (some ⟨p, 0, none⟩)) (w' := W9) (by kernel_rfl) (by kernel_rfl) ?_
  try (conv => lhs; change (Act.mk #[_,_,_,_,_,_,_,_,_,_,_,_,_,_,_,_,_,_,_,_,_,_,_,_,_,_,_,_,_,_,_,_,_,_,_,_,_,_,_,_,_,_,_,_,_,_,_,_,_,_,_,_,_,_,_,_,_,_,_,_,_,_,_,_,_,_,_,_,_] _))
  refine wpList_callW (by kernel_rfl) (f := 42) (args := #[.pointer (some ⟨p, 0, none⟩)]) (by kernel_rfl) ((len_live W9 p c v7 2 [(x, 1), (fst8 1, 0)] HP.out).mono ?_)
  rintro e W9 ⟨rfl, rfl⟩
  refine ⟨_, rfl, ?_⟩
  try (conv => lhs; change (Act.mk #[_,_,_,_,_,_,_,_,_,_,_,_,_,_,_,_,_,_,_,_,_,_,_,_,_,_,_,_,_,_,_,_,_,_,_,_,_,_,_,_,_,_,_,_,_,_,_,_,_,_,_,_,_,_,_,_,_,_,_,_,_,_,_,_,_,_,_,_,_] _))
  refine wpList_oneW (v := .bool true) (w' := W9) (by kernel_rfl) (by kernel_rfl) ?_
  try (conv => lhs; change (Act.mk #[_,_,_,_,_,_,_,_,_,_,_,_,_,_,_,_,_,_,_,_,_,_,_,_,_,_,_,_,_,_,_,_,_,_,_,_,_,_,_,_,_,_,_,_,_,_,_,_,_,_,_,_,_,_,_,_,_,_,_,_,_,_,_,_,_,_,_,_,_] _))
  refine wpList_one (v := .bool true) (w' := W9) rfl (by kernel_rfl) ?_
  try (conv => lhs; change (Act.mk #[_,_,_,_,_,_,_,_,_,_,_,_,_,_,_,_,_,_,_,_,_,_,_,_,_,_,_,_,_,_,_,_,_,_,_,_,_,_,_,_,_,_,_,_,_,_,_,_,_,_,_,_,_,_,_,_,_,_,_,_,_,_,_,_,_,_,_,_,_] _))
  refine wpList_one (v := .bool true) (w' := W9) rfl (by kernel_rfl) ?_
  try (conv => lhs; change (Act.mk #[_,_,_,_,_,_,_,_,_,_,_,_,_,_,_,_,_,_,_,_,_,_,_,_,_,_,_,_,_,_,_,_,_,_,_,_,_,_,_,_,_,_,_,_,_,_,_,_,_,_,_,_,_,_,_,_,_,_,_,_,_,_,_,_,_,_,_,_,_] _))
  refine wpList_oneW (v := .pointer (some ⟨p, 0, none⟩)) (w' := W9) (by kernel_rfl) (by kernel_rfl) ?_
  try (conv => lhs; change (Act.mk #[_,_,_,_,_,_,_,_,_,_,_,_,_,_,_,_,_,_,_,_,_,_,_,_,_,_,_,_,_,_,_,_,_,_,_,_,_,_,_,_,_,_,_,_,_,_,_,_,_,_,_,_,_,_,_,_,_,_,_,_,_,_,_,_,_,_,_,_,_] _))
  refine wpList_oneW (v := .agg (bytesA x)) (w' := W9) (by kernel_rfl) (load_run (x := .tmp 4) (A := ⟨k2 + 1, 0, none⟩) rfl rfl (load28 HH.out HXL.out)) ?_
  try (conv => lhs; change (Act.mk #[_,_,_,_,_,_,_,_,_,_,_,_,_,_,_,_,_,_,_,_,_,_,_,_,_,_,_,_,_,_,_,_,_,_,_,_,_,_,_,_,_,_,_,_,_,_,_,_,_,_,_,_,_,_,_,_,_,_,_,_,_,_,_,_,_,_,_,_,_] _))
  refine wpList_callW (by kernel_rfl) (f := 56) (args := #[.pointer (some ⟨p, 0, none⟩), .agg (bytesA x)]) (by kernel_rfl) ((has_live p c v7 2 [(x, 1), (fst8 1, 0)] x HXL.out W9 HP.out).mono ?_)
  rintro e W10 ⟨rfl, hb⟩
  refine ⟨_, rfl, ?_⟩
  try (conv => lhs; change (Act.mk #[_,_,_,_,_,_,_,_,_,_,_,_,_,_,_,_,_,_,_,_,_,_,_,_,_,_,_,_,_,_,_,_,_,_,_,_,_,_,_,_,_,_,_,_,_,_,_,_,_,_,_,_,_,_,_,_,_,_,_,_,_,_,_,_,_,_,_,_,_] _))
  rw [show ([(x, 1), (fst8 1, 0)].any fun b => hh b.1 b.2 == x) = true by simp [HE1.out]]
  have HL := Lib.hid (HL.out.below hb)
  clear hb
  refine wpList_one (v := .bool true) (w' := W10) rfl (by kernel_rfl) ?_
  try (conv => lhs; change (Act.mk #[_,_,_,_,_,_,_,_,_,_,_,_,_,_,_,_,_,_,_,_,_,_,_,_,_,_,_,_,_,_,_,_,_,_,_,_,_,_,_,_,_,_,_,_,_,_,_,_,_,_,_,_,_,_,_,_,_,_,_,_,_,_,_,_,_,_,_,_,_] _))
  refine wpList_one (v := .bool true) (w' := W10) rfl (by kernel_rfl) ?_
  try (conv => lhs; change (Act.mk #[_,_,_,_,_,_,_,_,_,_,_,_,_,_,_,_,_,_,_,_,_,_,_,_,_,_,_,_,_,_,_,_,_,_,_,_,_,_,_,_,_,_,_,_,_,_,_,_,_,_,_,_,_,_,_,_,_,_,_,_,_,_,_,_,_,_,_,_,_] _))
  go_wp2_with fail
  go_ret
  exact ⟨rfl, HL.out⟩
end Go.Proofs.Ytdecbimklomdjaa
