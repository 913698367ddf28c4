/- The sign laws' first example: a signature is its key's. -/
import Derived.Test.YtdecbimklomdjaaIs
namespace Go.Proofs.Ytdecbimklomdjaa
open Go Go.RowKit Go.Shelf
/-- A hash that begins with a small number. -/
def hz (n : Nat) : List UInt8 := UInt8.ofNat n :: List.replicate 31 0
theorem unlike : Sha.hash (hz 1 ++ hz 2) ≠ Sha.hash (hz 1 ++ hz 3) := by decide +kernel
theorem isB_sign (s d e : List UInt8) (hs : s.length = 32) : isB (Sha.hash s) (s ++ Sha.hash (s ++ d)) e = (Sha.hash (s ++ e) == Sha.hash (s ++ d)) := by
  unfold isB
  rw [List.take_left' hs, List.drop_left' hs, hash_length, List.length_append, hs, hash_length]
  simp
theorem alive2 : isB (Sha.hash (hz 1)) (hz 1 ++ Sha.hash (hz 1 ++ hz 2)) (hz 2) = true := by rw [isB_sign _ _ _ rfl]; simp
theorem alive3 : isB (Sha.hash (hz 1)) (hz 1 ++ Sha.hash (hz 1 ++ hz 2)) (hz 3) = false := by rw [isB_sign _ _ _ rfl]; exact beq_eq_false_iff_ne.2 (Ne.symm unlike)
theorem sig_at {w : World} {g : Nat} {s h : List UInt8} (hg : w.heap[g]? = some (.cells (bytesA (s ++ Sha.hash h)) 5 (0, 0))) (hs : s.length = 32 := by rfl) : BytesAt w (.slice (some ⟨g, 0, none⟩) 64 64) (s ++ Sha.hash h) := by
  have hl : (s ++ Sha.hash h).length = 64 := by rw [List.length_append, hs, hash_length]
  have := bytesAt_row hg 64 (by omega) (by unfold maxLen; omega)
  rwa [hl] at this
/-- What the operations of alive's region 2 yield. -/
def alP (B : Nat) : Nat → Value → World → Prop
  | 0, v, _ => v = .slice (some ⟨B, 0, none⟩) 32 32
  | 1, v, _ => v = .agg (bytesA (hz 1))
  | 2, v, _ => v = .agg (bytesA (hz 2))
  | 3, v, w => BytesAt w v (hz 1 ++ Sha.hash (hz 1 ++ hz 2))
  | 4, v, _ => v = .agg (bytesA (hz 2))
  | 7, v, _ => v = .slice (some ⟨B, 0, none⟩) 32 32
  | 8, v, _ => v = .agg (bytesA (hz 1))
  | 9, v, _ => v = .agg (bytesA (hz 2))
  | 10, v, w => BytesAt w v (hz 1 ++ Sha.hash (hz 1 ++ hz 2))
  | 11, v, _ => v = .agg (bytesA (hz 3))
  | 12, v, _ => v = .bool false
  | _, v, _ => v = .bool true
theorem alP_stable (B : Nat) (i : Nat) (v : Value) (w w' : World) (h : alP B i v w) (hb : Below w.heap.size w w') : alP B i v w' := by
  unfold alP at *
  split at h <;> first | exact h | exact h.below hb
set_option maxRecDepth 100000 in
set_option maxHeartbeats 1000000 in
theorem alive_any (w : World) : Calls Try.prog 58 #[] w fun e w' => e = .returned (.bool true) ∧ Below w.heap.size w w' := by
  go_enter Try.func58, Try.ntmps58
  go_wp2_with fail
  change Calls Try.prog 33 #[.agg (bytesA (hz 1))] _ _
  refine (public_any (hz 1) rfl w).mono ?_
  rintro e W1 ⟨rfl, hb1⟩
  obtain ⟨W2, hW2⟩ : ∃ W2, W1.alloc (.cells (bytesA (Sha.hash (hz 1))) 28) = W2 := ⟨_, rfl⟩
  have HB1 := Lib.hid hb1
  clear hb1
  go_wp2_with ((with_reducible refine wpList_store_row ?_ 28 (.tmp 1) (.tmp 3) ?_ W1.heap.size (bytesA (Sha.hash (hz 1))) ?_ ?_ 28 _ (heap_alloc_new W1 _) ?_ ?_ ?_ ?_);  (next => rfl); (next => rfl); (next => rfl); (next => rfl); (next => rw [size_bytesA, hash_length]; kernel_rfl); (next => rw [size_bytesA, hash_length]; rfl); (next => exact all_bytes _); rw [World.setRow_alloc_new, hW2])
  have hb2 : Below W1.heap.size W1 W2 := by rw [← hW2]; exact (Below.refl _ _).alloc (Nat.le_refl _) _
  have hn2 : W2.heap[W1.heap.size]? = some (.cells (bytesA (Sha.hash (hz 1))) 28 (0, 0)) := by rw [← hW2]; exact heap_alloc_new _ _
  have hB : BytesAt W2 (.slice (some ⟨W1.heap.size, 0, none⟩) 32 32) (Sha.hash (hz 1)) := row32 hn2 (hash_length _)
  have hs1 := HB1.out.size
  have hs2 := hb2.size
  have HBW := Lib.hid (HB1.out.trans (hb2.mono hs1))
  generalize W1.heap.size = B at *
  clear hb2 hn2 hW2
  refine G.wp_region_mono 16 (by kernel_rfl) (by kernel_rfl) (alP B) (alP_stable B) ⟨?_, ?_, ?_, ?_, ?_, ?_, ?_, ?_, ?_, ?_, ?_, ?_, ?_, ?_, ?_, ?_, trivial⟩ ?_
  · intro vals a w1 hb hs' hd'
    refine want rfl ?_
    have e1 : a.eval (.tmp 1) = Value.pointer (some ⟨B, 0, none⟩) := hs' 1 (by decide)
    refine head_val (.slice (some ⟨B, 0, none⟩) 32 32) ?_ (Below.refl _ _) rfl
    generalize a.eval = ρ at *
    clear hs' hd'
    go_simp
  · intro vals a w1 hb hs' hd'
    refine want rfl ?_
    have ec : a.eval (.const (.int .u8 1)) = .int .u8 1 := rfl
    refine head_val (.agg (bytesA (hz 1))) ?_ (Below.refl _ _) rfl
    generalize a.eval = ρ at *
    clear hs' hd'
    go_simp
    rfl
  · intro vals a w1 hb hs' hd'
    refine want rfl ?_
    have ec : a.eval (.const (.int .u8 2)) = .int .u8 2 := rfl
    refine head_val (.agg (bytesA (hz 2))) ?_ (Below.refl _ _) rfl
    generalize a.eval = ρ at *
    clear hs' hd'
    go_simp
    rfl
  · intro vals a w1 hb hs' hd'
    refine want rfl ?_
    have e5 : a.eval (.tmp 5) = _ := (hd' 1 (by decide)).1.trans (hd' 1 (by decide)).2
    have e6 : a.eval (.tmp 6) = _ := (hd' 2 (by decide)).1.trans (hd' 2 (by decide)).2
    have ef : a.eval (.func 32) = .func (.func 32) #[] #[] := rfl
    refine head_call (f := 32) (args := #[.agg (bytesA (hz 1)), .agg (bytesA (hz 2))]) ?_ ((sign_any (hz 1) (hz 2) rfl rfl w1).mono fun e w' h => by obtain ⟨g, h1, _, h3, h4⟩ := h; exact ⟨_, h1, h4, sig_at h3⟩)
    generalize a.eval = ρ at *
    clear hs' hd'
    go_simp
  · intro vals a w1 hb hs' hd'
    refine want rfl ?_
    have ec : a.eval (.const (.int .u8 2)) = .int .u8 2 := rfl
    refine head_val (.agg (bytesA (hz 2))) ?_ (Below.refl _ _) rfl
    generalize a.eval = ρ at *
    clear hs' hd'
    go_simp
    rfl
  · intro vals a w1 hb hs' hd'
    refine want rfl ?_
    have e4 : a.eval (.tmp 4) = _ := (hd' 0 (by decide)).1.trans (hd' 0 (by decide)).2
    have e7 : a.eval (.tmp 7) = vals 3 := (hd' 3 (by decide)).1
    have p7 := (hd' 3 (by decide)).2
    simp only [alP] at p7
    have e8 : a.eval (.tmp 8) = _ := (hd' 4 (by decide)).1.trans (hd' 4 (by decide)).2
    have ef : a.eval (.func 44) = .func (.func 44) #[] #[] := rfl
    have hkb : BytesAt w1 (.slice (some ⟨B, 0, none⟩) 32 32) (Sha.hash (hz 1)) := (hB.below hb)
    refine head_call (f := 44) (args := #[.slice (some ⟨B, 0, none⟩) 32 32, vals 3, .agg (bytesA (hz 2))]) ?_ ((is_any _ _ (Sha.hash (hz 1)) (hz 1 ++ Sha.hash (hz 1 ++ hz 2)) (hz 2) rfl w1 hkb p7).mono fun e w' h => ⟨_, h.1, h.2, by rw [alive2]; rfl⟩)
    generalize a.eval = ρ at *
    clear hs' hd'
    go_simp
  · intro vals a w1 hb hs' hd'
    refine want rfl ?_
    have e9 : a.eval (.tmp 9) = _ := (hd' 5 (by decide)).1.trans (hd' 5 (by decide)).2
    refine head_val (.bool true) ?_ (Below.refl _ _) rfl
    generalize a.eval = ρ at *
    clear hs' hd'
    go_simp
  · intro vals a w1 hb hs' hd'
    refine want (gd_some rfl (hd' 6 (by decide)).2) ?_
    have e1 : a.eval (.tmp 1) = Value.pointer (some ⟨B, 0, none⟩) := hs' 1 (by decide)
    refine head_val (.slice (some ⟨B, 0, none⟩) 32 32) ?_ (Below.refl _ _) rfl
    generalize a.eval = ρ at *
    clear hs' hd'
    go_simp
  · intro vals a w1 hb hs' hd'
    refine want (gd_some rfl (hd' 6 (by decide)).2) ?_
    have ec : a.eval (.const (.int .u8 1)) = .int .u8 1 := rfl
    refine head_val (.agg (bytesA (hz 1))) ?_ (Below.refl _ _) rfl
    generalize a.eval = ρ at *
    clear hs' hd'
    go_simp
    rfl
  · intro vals a w1 hb hs' hd'
    refine want (gd_some rfl (hd' 6 (by decide)).2) ?_
    have ec : a.eval (.const (.int .u8 2)) = .int .u8 2 := rfl
    refine head_val (.agg (bytesA (hz 2))) ?_ (Below.refl _ _) rfl
    generalize a.eval = ρ at *
    clear hs' hd'
    go_simp
    rfl
  · intro vals a w1 hb hs' hd'
    refine want (gd_some rfl (hd' 6 (by decide)).2) ?_
    have e12 : a.eval (.tmp 12) = _ := (hd' 8 (by decide)).1.trans (hd' 8 (by decide)).2
    have e13 : a.eval (.tmp 13) = _ := (hd' 9 (by decide)).1.trans (hd' 9 (by decide)).2
    have ef : a.eval (.func 32) = .func (.func 32) #[] #[] := rfl
    refine head_call (f := 32) (args := #[.agg (bytesA (hz 1)), .agg (bytesA (hz 2))]) ?_ ((sign_any (hz 1) (hz 2) rfl rfl w1).mono fun e w' h => by obtain ⟨g, h1, _, h3, h4⟩ := h; exact ⟨_, h1, h4, sig_at h3⟩)
    generalize a.eval = ρ at *
    clear hs' hd'
    go_simp
  · intro vals a w1 hb hs' hd'
    refine want (gd_some rfl (hd' 6 (by decide)).2) ?_
    have ec : a.eval (.const (.int .u8 3)) = .int .u8 3 := rfl
    refine head_val (.agg (bytesA (hz 3))) ?_ (Below.refl _ _) rfl
    generalize a.eval = ρ at *
    clear hs' hd'
    go_simp
    rfl
  · intro vals a w1 hb hs' hd'
    refine want (gd_some rfl (hd' 6 (by decide)).2) ?_
    have e11 : a.eval (.tmp 11) = _ := (hd' 7 (by decide)).1.trans (hd' 7 (by decide)).2
    have e14 : a.eval (.tmp 14) = vals 10 := (hd' 10 (by decide)).1
    have p14 := (hd' 10 (by decide)).2
    simp only [alP] at p14
    have e15 : a.eval (.tmp 15) = _ := (hd' 11 (by decide)).1.trans (hd' 11 (by decide)).2
    have ef : a.eval (.func 44) = .func (.func 44) #[] #[] := rfl
    have hkb : BytesAt w1 (.slice (some ⟨B, 0, none⟩) 32 32) (Sha.hash (hz 1)) := (hB.below hb)
    refine head_call (f := 44) (args := #[.slice (some ⟨B, 0, none⟩) 32 32, vals 10, .agg (bytesA (hz 3))]) ?_ ((is_any _ _ (Sha.hash (hz 1)) (hz 1 ++ Sha.hash (hz 1 ++ hz 2)) (hz 3) rfl w1 hkb p14).mono fun e w' h => ⟨_, h.1, h.2, by rw [alive3]; rfl⟩)
    generalize a.eval = ρ at *
    clear hs' hd'
    go_simp
  · intro vals a w1 hb hs' hd'
    refine want (gd_some rfl (hd' 6 (by decide)).2) ?_
    have e16 : a.eval (.tmp 16) = _ := (hd' 12 (by decide)).1.trans (hd' 12 (by decide)).2
    refine head_val (.bool true) ?_ (Below.refl _ _) rfl
    generalize a.eval = ρ at *
    clear hs' hd'
    go_simp
  · intro vals a w1 hb hs' hd'
    refine want rfl ?_
    have e10 : a.eval (.tmp 10) = _ := (hd' 6 (by decide)).1.trans (hd' 6 (by decide)).2
    have e17 : a.eval (.tmp 17) = _ := (hd' 13 (by decide)).1.trans (hd' 13 (by decide)).2
    have ec : a.eval (.const (.bool false)) = .bool false := rfl
    refine head_val (.bool true) ?_ (Below.refl _ _) rfl
    generalize a.eval = ρ at *
    clear hs' hd'
    go_simp
  · intro vals a w1 hb hs' hd'
    refine want rfl ?_
    have e18 : a.eval (.tmp 18) = _ := (hd' 14 (by decide)).1.trans (hd' 14 (by decide)).2
    refine head_val (.bool true) ?_ (Below.refl _ _) rfl
    generalize a.eval = ρ at *
    clear hs' hd'
    go_simp
  · intro vals w' hb hall
    have h15 : vals 15 = .bool true := hall 15 (by omega)
    have HB4 := Lib.hid (HBW.out.trans (hb.mono (Nat.le_trans hs1 hs2)))
    clear hb hall
    simp only [List.take_succ_cons, List.take_zero, List.drop_succ_cons, List.drop_zero, G.putHeads, List.zipIdx_cons, List.zipIdx_nil, List.foldl_cons, List.foldl_nil, Act.put, List.setIfInBounds_toArray, List.set_cons_zero, List.set_cons_succ, Nat.zero_add, Nat.reduceAdd, h15]
    refine wpList_nil ?_
    go_wp2_with fail
    go_ret
    exact ⟨rfl, HB4.out⟩
end Go.Proofs.Ytdecbimklomdjaa
