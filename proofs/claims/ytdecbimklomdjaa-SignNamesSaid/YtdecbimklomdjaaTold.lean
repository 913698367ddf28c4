/- purserlaw09.SignTold: its walk. -/
import Derived.Test.YtdecbimklomdjaaOpen
namespace Go.Proofs.Ytdecbimklomdjaa
open Go Go.RowKit Go.Shelf
theorem head_at (s h : List UInt8) (j : Nat) (v : Value) (hv : (s.map V8)[j]? = some v) : (bytesA (s ++ h))[0 + j]? = some v := by
  unfold bytesA
  rw [Nat.zero_add, List.getElem?_toArray, List.map_append, List.getElem?_append_left (List.getElem?_eq_some_iff.1 hv).1]
  exact hv
def told2 (B : Nat) (s d : List UInt8) : Nat → Value → World → Prop
  | 0, v, _ => v = .agg (bytesA s)
  | 1, v, _ => v = .agg (bytesA (Sha.hash s))
  | 2, v, _ => v = .agg (bytesA s)
  | 3, v, _ => v = .agg (bytesA d)
  | 4, v, w => ∃ g, v = .slice (some ⟨g, 0, none⟩) 64 64 ∧ B ≤ g ∧ w.heap[g]? = some (.cells (bytesA (s ++ Sha.hash (s ++ d))) 5 (0, 0))
  | _, v, w => ∃ b c, v = .pointer (some ⟨b, 0, none⟩) ∧ B ≤ b ∧ w.heap[b]? = some (.cells c 28 (0, 0)) ∧ c.size = 32
theorem told2_stable (B : Nat) (s d : List UInt8) (i : Nat) (v : Value) (w w' : World) (h : told2 B s d i v w) (hb : Below w.heap.size w w') : told2 B s d i v w' := by
  unfold told2 at *
  split at h
  · exact h
  · exact h
  · exact h
  · exact h
  · obtain ⟨g, h1, h2, h3⟩ := h; exact ⟨g, h1, h2, block_below hb h3⟩
  · obtain ⟨b, c, h1, h2, h3, h4⟩ := h; exact ⟨b, c, h1, h2, block_below hb h3, h4⟩
def told5 (g : Nat) (s m : List UInt8) : Nat → Value → World → Prop
  | 0, v, _ => v = .slice (some ⟨g, 0, none⟩) 64 64
  | 1, v, _ => v = .slice (some ⟨g, 0, none⟩) 32 64
  | 2, v, _ => v = .pointer (some ⟨g, 0, none⟩)
  | 3, v, _ => v = .agg (bytesA s)
  | 4, v, _ => v = .agg (bytesA m)
  | _, v, w => BytesAt w v (s ++ Sha.hash (s ++ m))
theorem told5_stable (g : Nat) (s m : List UInt8) (i : Nat) (v : Value) (w w' : World) (h : told5 g s m i v w) (hb : Below w.heap.size w w') : told5 g s m i v w' := by
  unfold told5 at *
  split at h <;> first | exact h | exact h.below hb
def told6 (k : Nat) (s m : List UInt8) : Nat → Value → World → Prop
  | 2, v, _ => v = .slice (some ⟨k, 0, none⟩) 32 32
  | 3, v, w => BytesAt w v (s ++ Sha.hash (s ++ m))
  | 4, v, _ => v = .agg (bytesA m)
  | _, v, _ => v = .bool true
theorem told6_stable (k : Nat) (s m : List UInt8) (i : Nat) (v : Value) (w w' : World) (h : told6 k s m i v w) (hb : Below w.heap.size w w') : told6 k s m i v w' := by
  unfold told6 at *
  split at h <;> first | exact h | exact h.below hb
set_option maxRecDepth 100000 in
set_option maxHeartbeats 2000000 in
theorem told_any (s d m : List UInt8) (hs : s.length = 32) (hd : d.length = 32) (hm : m.length = 32) (w : World) :
    Calls Try.prog 14 #[.agg (bytesA s), .agg (bytesA d), .agg (bytesA m)] w fun e w' => e = .returned (.bool true) ∧ Below w.heap.size w w' := by
  have haa : ∀ (a : Option Addr) (c : Nat) (w : World), (Instr.arrayAt 28 (.slice a 32 c)).run Try.prog w = .ok (.pointer a) w := fun a c w => run_arrayAt w 28 5 32 a 32 c Try.underlying28 (Nat.le_refl _)
  have HIS : Hid ((Try.prog.info? 28).map (·.size) = some (s.map V8).length) := Lib.hid (by rw [List.length_map, hs]; kernel_rfl)
  have HID : Hid ((Try.prog.info? 28).map (·.size) = some (d.map V8).length) := Lib.hid (by rw [List.length_map, hd]; kernel_rfl)
  have HIM : Hid ((Try.prog.info? 28).map (·.size) = some (m.map V8).length) := Lib.hid (by rw [List.length_map, hm]; kernel_rfl)
  obtain ⟨W1, hW1, hb1, hn1, hn2, hn3, hsz⟩ := three_at w (.cells (bytesA s) 28) (.cells (bytesA d) 28) (.cells (bytesA m) 28)
  go_enter Try.func14, Try.ntmps14
  go_wp2_with fail
  try rw [hW1]
  refine (alive_any W1).mono ?_
  rintro e W2 ⟨rfl, hb2⟩
  have hz2 := hb2.size
  have HS0 : Hid (W2.heap[w.heap.size]? = _) := Lib.hid ((hb2.block _ (by omega)).trans hn1)
  have HS1 := Lib.hid ((hb2.block _ (by omega)).trans hn2)
  have HS2 := Lib.hid ((hb2.block _ (by omega)).trans hn3)
  have HBW := Lib.hid (hb1.trans (hb2.mono (by omega)))
  obtain ⟨B, hB⟩ : ∃ B, B = w.heap.size := ⟨_, rfl⟩
  rw [← hB] at HS0 HS1 HS2
  have HLT : Hid (B < W2.heap.size ∧ B + 1 < W2.heap.size ∧ B + 2 < W2.heap.size) := Lib.hid (by omega)
  have hBW : w.heap.size ≤ W2.heap.size := by omega
  go_wp2_with fail
  rw [← hB]
  have HBB := Lib.hid hB
  clear hB hb1 hn1 hn2 hn3 hW1 hb2 hz2 hsz
  refine G.wp_region_mono 6 (by kernel_rfl) (by kernel_rfl) (told2 W2.heap.size s d) (told2_stable _ s d) ⟨?_, ?_, ?_, ?_, ?_, ?_, trivial⟩ ?_
  · intro vals a w1 hb hs' hd'
    refine want rfl ?_
    have e3 : a.eval (.tmp 3) = Value.pointer (some ⟨B, 0, none⟩) := hs' 3 (by decide)
    have hl := run_loadVar_mid (P := Try.prog) w1 (B) (0) 28 (s.map V8) _ (row_range ((hb.block _ HLT.out.1).trans HS0.out)) Try.underlying28 rfl HIS.out
    refine head_val (.agg (bytesA s)) ?_ (Below.refl _ _) rfl
    generalize a.eval = ρ at *
    clear hs' hd'
    simp only [execOp, e3, Instr.loadAt, Instr.sureAddr, Sem.run_bind, Sem.run_pure, Result.andThen_ok, hl]
    rfl
  · intro vals a w1 hb hs' hd'
    refine want rfl ?_
    have e12 : a.eval (.tmp 12) = _ := (hd' 0 (by decide)).1.trans (hd' 0 (by decide)).2
    have ef : a.eval (.func 33) = .func (.func 33) #[] #[] := rfl
    refine head_call (f := 33) (args := #[.agg (bytesA s)]) ?_ ((public_any s hs w1).mono fun e w' h => ⟨_, h.1, h.2, rfl⟩)
    generalize a.eval = ρ at *
    clear hs' hd'
    go_simp
  · intro vals a w1 hb hs' hd'
    refine want rfl ?_
    have e3 : a.eval (.tmp 3) = Value.pointer (some ⟨B, 0, none⟩) := hs' 3 (by decide)
    have hl := run_loadVar_mid (P := Try.prog) w1 (B) (0) 28 (s.map V8) _ (row_range ((hb.block _ HLT.out.1).trans HS0.out)) Try.underlying28 rfl HIS.out
    refine head_val (.agg (bytesA s)) ?_ (Below.refl _ _) rfl
    generalize a.eval = ρ at *
    clear hs' hd'
    simp only [execOp, e3, Instr.loadAt, Instr.sureAddr, Sem.run_bind, Sem.run_pure, Result.andThen_ok, hl]
    rfl
  · intro vals a w1 hb hs' hd'
    refine want rfl ?_
    have e4 : a.eval (.tmp 4) = Value.pointer (some ⟨B + 1, 0, none⟩) := hs' 4 (by decide)
    have hl := run_loadVar_mid (P := Try.prog) w1 (B + 1) (0) 28 (d.map V8) _ (row_range ((hb.block _ HLT.out.2.1).trans HS1.out)) Try.underlying28 rfl HID.out
    refine head_val (.agg (bytesA d)) ?_ (Below.refl _ _) rfl
    generalize a.eval = ρ at *
    clear hs' hd'
    simp only [execOp, e4, Instr.loadAt, Instr.sureAddr, Sem.run_bind, Sem.run_pure, Result.andThen_ok, hl]
    rfl
  · intro vals a w1 hb hs' hd'
    refine want rfl ?_
    have e14 : a.eval (.tmp 14) = _ := (hd' 2 (by decide)).1.trans (hd' 2 (by decide)).2
    have e15 : a.eval (.tmp 15) = _ := (hd' 3 (by decide)).1.trans (hd' 3 (by decide)).2
    have ef : a.eval (.func 32) = .func (.func 32) #[] #[] := rfl
    refine head_call (f := 32) (args := #[.agg (bytesA s), .agg (bytesA d)]) ?_ ((sign_any s d hs hd w1).mono fun e w' h => by obtain ⟨g, h1, h2, h3, h4⟩ := h; exact ⟨_, h1, h4, g, rfl, Nat.le_trans hb.size h2, h3⟩)
    generalize a.eval = ρ at *
    clear hs' hd'
    go_simp
  · intro vals a w1 hb hs' hd'
    refine want rfl ?_
    refine head_val (.pointer (some ⟨w1.heap.size, 0, none⟩)) (w' := w1.alloc (.cells (bytesA (Sha.zeros 32)) 28)) ?_ ((Below.refl _ _).alloc (Nat.le_refl _) _) ⟨_, _, rfl, hb.size, heap_alloc_new _ _, rfl⟩
    generalize a.eval = ρ at *
    clear hs' hd'
    go_simp
    rfl
  intro vals W3 hb3 hall
  have h1 : vals 1 = .agg (bytesA (Sha.hash s)) := hall 1 (by omega)
  obtain ⟨g, h4, hgB, hgr⟩ := hall 4 (by omega)
  obtain ⟨k, z, h5, hkB, hkr, hkz⟩ := hall 5 (by omega)
  have h0 : vals 0 = .agg (bytesA s) := hall 0 (by omega)
  have h2 : vals 2 = .agg (bytesA s) := hall 2 (by omega)
  have h3 : vals 3 = .agg (bytesA d) := hall 3 (by omega)
  clear hall
  simp only [List.take_succ_cons, List.take_zero, List.drop_succ_cons, List.drop_zero, G.putHeads, List.zipIdx_cons, List.zipIdx_nil, List.foldl_cons, List.foldl_nil, Act.put, List.setIfInBounds_toArray, List.set_cons_zero, List.set_cons_succ, Nat.zero_add, Nat.reduceAdd, h0, h1, h2, h3, h4, h5]
  have hkz' : z.size = (bytesA (Sha.hash s)).size := by rw [size_bytesA, hash_length]; exact hkz
  refine wpList_store_row rfl 28 (.tmp 8) (.tmp 13) rfl k (bytesA (Sha.hash s)) rfl rfl 28 z hkr (by rw [size_bytesA, hash_length]; kernel_rfl) hkz' (all_bytes _) ?_
  have hne : g ≠ k := by rintro rfl; rw [hgr] at hkr; cases hkr
  obtain ⟨W4, hW4⟩ : ∃ W4, W3.setRow k (bytesA (Sha.hash s)) = W4 := ⟨_, rfl⟩
  have hz3 := hb3.size
  have hb4 : Below W2.heap.size W2 W4 := by rw [← hW4]; exact below_setRow hb3 hkB _
  have hg4 : W4.heap[g]? = some (.cells (bytesA (s ++ Sha.hash (s ++ d))) 5 (0, 0)) := by rw [← hW4]; exact (setRow_other _ _ _ _ hne).trans hgr
  have hk4 : W4.heap[k]? = some (.cells (bytesA (Sha.hash s)) 28 (0, 0)) := by rw [← hW4]; exact setRow_heap _ _ _ _ _ _ hkr
  rw [hW4]
  have HB4 := Lib.hid hb4
  have HGR := Lib.hid hg4
  have HG := Lib.hid (Array.getElem?_eq_some_iff.1 hg4).1
  have HK4 := Lib.hid hk4
  have HM5 := Lib.hid ((hb4.block _ HLT.out.2.2).trans HS2.out)
  have HLT5 := Lib.hid (Array.getElem?_eq_some_iff.1 HM5.out).1
  clear hb3 hkr hkz hkz' hgr hW4 hb4 hg4 hk4 h1 h4 h5 h0 h2 h3
  go_wp2_with fail
  refine G.wp_region_mono 7 (by kernel_rfl) (by kernel_rfl) (told5 g s m) (told5_stable g s m) ⟨?_, ?_, ?_, ?_, ?_, ?_, ?_, trivial⟩ ?_
  · intro vals a w1 hb hs' hd'
    refine want rfl ?_
    have e9 : a.eval (.tmp 9) = Value.slice (some ⟨g, 0, none⟩) 64 64 := hs' 9 (by decide)
    refine head_val (.slice (some ⟨g, 0, none⟩) 64 64) ?_ (Below.refl _ _) rfl
    generalize a.eval = ρ at *
    clear hs' hd'
    go_simp
  · intro vals a w1 hb hs' hd'
    refine want rfl ?_
    have e20 : a.eval (.tmp 20) = _ := (hd' 0 (by decide)).1.trans (hd' 0 (by decide)).2
    have ec : a.eval (.const (.int .i64 32)) = .int .i64 32 := rfl
    refine head_val (.slice (some ⟨g, 0, none⟩) 32 64) ?_ (Below.refl _ _) rfl
    generalize a.eval = ρ at *
    clear hs' hd'
    go_simp
  · intro vals a w1 hb hs' hd'
    refine want rfl ?_
    have e21 : a.eval (.tmp 21) = _ := (hd' 1 (by decide)).1.trans (hd' 1 (by decide)).2
    have haa := haa
    refine head_val (.pointer (some ⟨g, 0, none⟩)) ?_ (Below.refl _ _) rfl
    generalize a.eval = ρ at *
    clear hs' hd'
    go_simp
  · intro vals a w1 hb hs' hd'
    refine want rfl ?_
    have e22 : a.eval (.tmp 22) = _ := (hd' 2 (by decide)).1.trans (hd' 2 (by decide)).2
    have hl := run_loadVar_mid (P := Try.prog) w1 (g) (0) 28 (s.map V8) _ (rangeAt_of_row ((hb.block _ HG.out).trans HGR.out) 0 _ (fun j v hv => head_at _ _ j v hv)) Try.underlying28 rfl HIS.out
    refine head_val (.agg (bytesA s)) ?_ (Below.refl _ _) rfl
    generalize a.eval = ρ at *
    clear hs' hd'
    simp only [execOp, e22, Instr.loadAt, Instr.sureAddr, Sem.run_bind, Sem.run_pure, Result.andThen_ok, hl]
    rfl
  · intro vals a w1 hb hs' hd'
    refine want rfl ?_
    have e5 : a.eval (.tmp 5) = Value.pointer (some ⟨B + 2, 0, none⟩) := hs' 5 (by decide)
    have hl := run_loadVar_mid (P := Try.prog) w1 (B + 2) (0) 28 (m.map V8) _ (row_range ((hb.block _ HLT5.out).trans HM5.out)) Try.underlying28 rfl HIM.out
    refine head_val (.agg (bytesA m)) ?_ (Below.refl _ _) rfl
    generalize a.eval = ρ at *
    clear hs' hd'
    simp only [execOp, e5, Instr.loadAt, Instr.sureAddr, Sem.run_bind, Sem.run_pure, Result.andThen_ok, hl]
    rfl
  · intro vals a w1 hb hs' hd'
    refine want rfl ?_
    have e23 : a.eval (.tmp 23) = _ := (hd' 3 (by decide)).1.trans (hd' 3 (by decide)).2
    have e24 : a.eval (.tmp 24) = _ := (hd' 4 (by decide)).1.trans (hd' 4 (by decide)).2
    have ef : a.eval (.func 32) = .func (.func 32) #[] #[] := rfl
    refine head_call (f := 32) (args := #[.agg (bytesA s), .agg (bytesA m)]) ?_ ((sign_any s m hs hm w1).mono fun e w' h => by obtain ⟨g, h1, h2, h3, h4⟩ := h; exact ⟨_, h1, h4, sig_at h3 hs⟩)
    generalize a.eval = ρ at *
    clear hs' hd'
    go_simp
  · intro vals a w1 hb hs' hd'
    refine want rfl ?_
    have e25 : a.eval (.tmp 25) = vals 5 := (hd' 5 (by decide)).1
    have p25 := (hd' 5 (by decide)).2
    simp only [told5] at p25
    refine head_val (vals 5) ?_ (Below.refl _ _) p25
    generalize a.eval = ρ at *
    clear hs' hd'
    go_simp
  intro vals W5 hb5 hall
  have h0 : vals 0 = .slice (some ⟨g, 0, none⟩) 64 64 := hall 0 (by omega)
  have h1 : vals 1 = .slice (some ⟨g, 0, none⟩) 32 64 := hall 1 (by omega)
  have h2 : vals 2 = .pointer (some ⟨g, 0, none⟩) := hall 2 (by omega)
  have h3 : vals 3 = .agg (bytesA s) := hall 3 (by omega)
  have h4 : vals 4 = .agg (bytesA m) := hall 4 (by omega)
  obtain ⟨v5, h5⟩ : ∃ v, vals 5 = v := ⟨_, rfl⟩
  obtain ⟨v10, h6⟩ : ∃ v, vals 6 = v := ⟨_, rfl⟩
  have hf : BytesAt W5 v10 (s ++ Sha.hash (s ++ m)) := by rw [← h6]; exact hall 6 (by omega)
  clear hall
  simp only [List.take_succ_cons, List.take_zero, List.drop_succ_cons, List.drop_zero, G.putHeads, List.zipIdx_cons, List.zipIdx_nil, List.foldl_cons, List.foldl_nil, Act.put, List.setIfInBounds_toArray, List.set_cons_zero, List.set_cons_succ, Nat.zero_add, Nat.reduceAdd, h0, h1, h2, h3, h4, h5, h6]
  have HF := Lib.hid hf
  have HK := Lib.hid ((row32 HK4.out (hash_length _)).below hb5)
  have HM6 := Lib.hid ((hb5.block _ HLT5.out).trans HM5.out)
  have HLT6 := Lib.hid (Array.getElem?_eq_some_iff.1 HM6.out).1
  have HB5 := Lib.hid (HB4.out.trans (hb5.mono HB4.out.size))
  clear hf hb5 h0 h1 h2 h3 h4 h5 h6
  refine wpList_nil ?_
  go_wp2_with fail
  refine G.wp_region_mono 8 (by kernel_rfl) (by kernel_rfl) (told6 k s m) (told6_stable k s m) ⟨?_, ?_, ?_, ?_, ?_, ?_, ?_, ?_, trivial⟩ ?_
  · intro vals a w1 hb hs' hd'
    refine want rfl ?_
    have e7 : a.eval (.tmp 7) = Value.bool true := hs' 7 (by decide)
    refine head_val (.bool true) ?_ (Below.refl _ _) rfl
    generalize a.eval = ρ at *
    clear hs' hd'
    go_simp
  · intro vals a w1 hb hs' hd'
    refine want rfl ?_
    have e26 : a.eval (.tmp 26) = _ := (hd' 0 (by decide)).1.trans (hd' 0 (by decide)).2
    refine head_val (.bool true) ?_ (Below.refl _ _) rfl
    generalize a.eval = ρ at *
    clear hs' hd'
    go_simp
  · intro vals a w1 hb hs' hd'
    refine want (gd_some rfl (hd' 1 (by decide)).2) ?_
    have e8 : a.eval (.tmp 8) = Value.pointer (some ⟨k, 0, none⟩) := hs' 8 (by decide)
    refine head_val (.slice (some ⟨k, 0, none⟩) 32 32) ?_ (Below.refl _ _) rfl
    generalize a.eval = ρ at *
    clear hs' hd'
    go_simp
  · intro vals a w1 hb hs' hd'
    refine want (gd_some rfl (hd' 1 (by decide)).2) ?_
    have e10 : a.eval (.tmp 10) = v10 := hs' 10 (by decide)
    refine head_val v10 ?_ (Below.refl _ _) (HF.out.below hb)
    generalize a.eval = ρ at *
    clear hs' hd'
    go_simp
  · intro vals a w1 hb hs' hd'
    refine want (gd_some rfl (hd' 1 (by decide)).2) ?_
    have e5 : a.eval (.tmp 5) = Value.pointer (some ⟨B + 2, 0, none⟩) := hs' 5 (by decide)
    have hl := run_loadVar_mid (P := Try.prog) w1 (B + 2) (0) 28 (m.map V8) _ (row_range ((hb.block _ HLT6.out).trans HM6.out)) Try.underlying28 rfl HIM.out
    refine head_val (.agg (bytesA m)) ?_ (Below.refl _ _) rfl
    generalize a.eval = ρ at *
    clear hs' hd'
    simp only [execOp, e5, Instr.loadAt, Instr.sureAddr, Sem.run_bind, Sem.run_pure, Result.andThen_ok, hl]
    rfl
  · intro vals a w1 hb hs' hd'
    refine want (gd_some rfl (hd' 1 (by decide)).2) ?_
    have e28 : a.eval (.tmp 28) = _ := (hd' 2 (by decide)).1.trans (hd' 2 (by decide)).2
    have e29 : a.eval (.tmp 29) = vals 3 := (hd' 3 (by decide)).1
    have p29 := (hd' 3 (by decide)).2
    simp only [told6] at p29
    have e30 : a.eval (.tmp 30) = _ := (hd' 4 (by decide)).1.trans (hd' 4 (by decide)).2
    have ef : a.eval (.func 44) = .func (.func 44) #[] #[] := rfl
    refine head_call (f := 44) (args := #[.slice (some ⟨k, 0, none⟩) 32 32, vals 3, .agg (bytesA m)]) ?_ ((is_any _ _ (Sha.hash s) (s ++ Sha.hash (s ++ m)) m hm w1 (HK.out.below hb) p29).mono fun e w' h => ⟨_, h.1, h.2, by rw [isB_sign _ _ _ hs, beq_self_eq_true]; rfl⟩)
    generalize a.eval = ρ at *
    clear hs' hd'
    go_simp
  · intro vals a w1 hb hs' hd'
    refine want rfl ?_
    have e27 : a.eval (.tmp 27) = _ := (hd' 1 (by decide)).1.trans (hd' 1 (by decide)).2
    have e31 : a.eval (.tmp 31) = _ := (hd' 5 (by decide)).1.trans (hd' 5 (by decide)).2
    have ec : a.eval (.const (.bool false)) = .bool false := rfl
    refine head_val (.bool true) ?_ (Below.refl _ _) rfl
    generalize a.eval = ρ at *
    clear hs' hd'
    go_simp
  · intro vals a w1 hb hs' hd'
    refine want rfl ?_
    have e32 : a.eval (.tmp 32) = _ := (hd' 6 (by decide)).1.trans (hd' 6 (by decide)).2
    refine head_val (.bool true) ?_ (Below.refl _ _) rfl
    generalize a.eval = ρ at *
    clear hs' hd'
    go_simp
  intro vals W6 hb6 hall
  have h7 : vals 7 = .bool true := hall 7 (by omega)
  have HB6 := Lib.hid (HB5.out.trans (hb6.mono HB5.out.size))
  clear hall hb6
  simp only [List.take_succ_cons, List.take_zero, List.drop_succ_cons, List.drop_zero, G.putHeads, List.zipIdx_cons, List.zipIdx_nil, List.foldl_cons, List.foldl_nil, Act.put, List.setIfInBounds_toArray, List.set_cons_zero, List.set_cons_succ, Nat.zero_add, Nat.reduceAdd, h7]
  refine wpList_nil ?_
  go_wp2_with fail
  go_ret
  exact ⟨rfl, HBW.out.trans (HB6.out.mono hBW)⟩
end Go.Proofs.Ytdecbimklomdjaa
