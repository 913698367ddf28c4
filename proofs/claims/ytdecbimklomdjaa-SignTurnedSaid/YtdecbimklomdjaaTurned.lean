/- purserlaw09.SignTurned: its walk. -/
import Derived.Test.YtdecbimklomdjaaTold
import Derived.Test.YtdecbimklomdjaaMeet
namespace Go.Proofs.Ytdecbimklomdjaa
open Go Go.RowKit Go.Shelf
theorem bits_of8 {op : BinOp} {a b c : Int} (h : ∀ (w : World), (Op.intBits op .u8 a b).run default w = .ok (.int .u8 c) w) (he : ∀ k x y, Op.intBits op k x y = pure (.int k (bits op k x y)) := by intros; rfl) : bits op .u8 a b = c := by
  have := h default
  rw [he] at this
  simpa using this
theorem b8_xor (x y : UInt8) : bits .xor .u8 (b8 x) (b8 y) = b8 (x ^^^ y) := by
  have h : (Op.intBits .xor .u8 (b8 x) (b8 y)) = (pure (.int .u8 (b8 (x ^^^ y))) : Sem Value) := by
    unfold Op.intBits
    refine congrArg (fun n => (pure (.int .u8 n) : Sem Value)) ?_
    have hx : BitVec.ofInt IntKind.u8.bits (b8 x) = x.toBitVec := by
      show BitVec.ofInt 8 (b8 x) = x.toBitVec
      apply BitVec.eq_of_toNat_eq
      have := x.toNat_lt
      simp [b8]
    have hy : BitVec.ofInt IntKind.u8.bits (b8 y) = y.toBitVec := by
      show BitVec.ofInt 8 (b8 y) = y.toBitVec
      apply BitVec.eq_of_toNat_eq
      have := y.toNat_lt
      simp [b8]
    rw [hx, hy]
    have hr : IntKind.u8.wrap ((x ^^^ y).toNat : Int) = b8 (x ^^^ y) := by
      have := (x ^^^ y).toNat_lt
      unfold b8
      generalize (x ^^^ y).toNat = n at *
      simp [IntKind.wrap, IntKind.bits, IntKind.signed]
      omega
    exact hr
  exact bits_of8 (fun w => by rw [h]; rfl)
theorem set_ne (l : List UInt8) (n : Nat) (y : UInt8) (h : n < l.length) (hy : y ≠ l.getD n 0) : l.set n y ≠ l := by
  intro e
  apply hy
  have : (l.set n y)[n]? = l[n]? := by rw [e]
  rw [List.getElem?_set_self h] at this
  rw [List.getD, ← this]; rfl

theorem bytesA_get (l : List UInt8) (n : Nat) (h : n < l.length) : (bytesA l)[n]? = some (V8 (l.getD n 0)) := by
  unfold bytesA
  rw [List.getElem?_toArray, List.getElem?_map, List.getD, List.getElem?_eq_getElem h]; rfl
theorem bytesA_set (l : List UInt8) (n : Nat) (y : UInt8) : (bytesA l).setIfInBounds n (V8 y) = bytesA (l.set n y) := by
  unfold bytesA
  rw [List.setIfInBounds_toArray, List.map_set]
theorem xor_ne (y c : UInt8) (h : c ≠ 0) : y ^^^ c ≠ y := by
  intro e
  apply h
  have : y ^^^ (y ^^^ c) = y ^^^ y := by rw [e]
  rwa [← UInt8.xor_assoc, UInt8.xor_self, UInt8.zero_xor] at this
theorem turn_key (s d : List UInt8) (p : Nat) (y : UInt8) (hs : s.length = 32) (hp : p < 32) (hy : y ≠ (Sha.hash s).getD p 0) : isB ((Sha.hash s).set p y) (s ++ Sha.hash (s ++ d)) d = false := by
  unfold isB
  rw [List.take_left' hs]
  have h : (Sha.hash s == (Sha.hash s).set p y) = false := beq_eq_false_iff_ne.2 (Ne.symm (set_ne _ _ _ (by rw [hash_length]; exact hp) hy))
  rw [h]
  simp
theorem turn_sig (s d : List UInt8) (n : Nat) (y : UInt8) (hs : s.length = 32) (hn : n < 64) (hy : y ≠ (s ++ Sha.hash (s ++ d)).getD n 0)
    (hno : hitB (((s ++ Sha.hash (s ++ d)).set n y).take 32) s = false) : isB (Sha.hash s) ((s ++ Sha.hash (s ++ d)).set n y) d = false := by
  by_cases h32 : n < 32
  · have e : ((s ++ Sha.hash (s ++ d)).set n y).take 32 = s.set n y := by rw [List.set_append_left _ _ (by omega), List.take_left' (by rw [List.length_set]; exact hs)]
    rw [e] at hno
    have hne : s.set n y ≠ s := set_ne s n y (by omega) (by
      intro h; apply hy
      rw [h, List.getD, List.getD, List.getElem?_append_left (by omega)])
    unfold hitB at hno
    rw [bne_iff_ne.2 hne, Bool.true_and] at hno
    unfold isB
    rw [e, hno]
    simp
  · have e : ((s ++ Sha.hash (s ++ d)).set n y).take 32 = s := by rw [List.set_append_right _ _ (by omega), List.take_left' hs]
    have e2 : ((s ++ Sha.hash (s ++ d)).set n y).drop 32 = (Sha.hash (s ++ d)).set (n - 32) y := by rw [List.set_append_right _ _ (by omega), List.drop_left' hs, hs]
    have hne := set_ne (Sha.hash (s ++ d)) (n - 32) y (by rw [hash_length]; omega) (by
      intro h; apply hy
      rw [h, List.getD, List.getD, List.getElem?_append_right (by omega), hs])
    unfold isB
    rw [e, e2, beq_eq_false_iff_ne.2 (Ne.symm hne)]
    simp
def tur8 (B g : Nat) (x2 s : List UInt8) : Nat → Value → World → Prop
  | 0, v, _ => v = .slice (some ⟨B, 0, none⟩) 32 32
  | 1, v, _ => v = .slice (some ⟨g, 0, none⟩) 64 64
  | 2, v, _ => v = .slice (some ⟨g, 0, none⟩) 32 64
  | 3, v, w => ∃ b, v = .slice (some ⟨b, 0, none⟩) 2 2 ∧ w.cell? ⟨b, 0, none⟩ = some (.slice (some ⟨B, 0, none⟩) 32 32) ∧ w.cell? ⟨b, 1, none⟩ = some (.slice (some ⟨g, 0, none⟩) 32 64) ∧ b < w.heap.size
  | _, v, _ => ∃ r, v = .bool r ∧ (r = false → hitB x2 s = false)
theorem tur8_stable (B g : Nat) (x2 s : List UInt8) (i : Nat) (v : Value) (w w' : World) (h : tur8 B g x2 s i v w) (hb : Below w.heap.size w w') : tur8 B g x2 s i v w' := by
  unfold tur8 at *
  split at h
  · exact h
  · exact h
  · exact h
  · obtain ⟨b, h1, h2, h3, h4⟩ := h
    exact ⟨b, h1, (hb.cell (p := ⟨b, 0, none⟩) h4).trans h2, (hb.cell (p := ⟨b, 1, none⟩) h4).trans h3, Nat.lt_of_lt_of_le h4 hb.size⟩
  · exact h
def tur11 (k g : Nat) (d : List UInt8) : Nat → Value → World → Prop
  | 2, v, _ => v = .slice (some ⟨k, 0, none⟩) 32 32
  | 3, v, _ => v = .slice (some ⟨g, 0, none⟩) 64 64
  | 4, v, _ => v = .agg (bytesA d)
  | 5, v, _ => v = .bool false
  | _, v, _ => v = .bool true
theorem tur11_stable (k g : Nat) (d : List UInt8) (i : Nat) (v : Value) (w w' : World) (h : tur11 k g d i v w) (_ : Below w.heap.size w w') : tur11 k g d i v w' := by
  unfold tur11 at *
  split at h <;> exact h
set_option maxRecDepth 100000 in
set_option maxHeartbeats 4000000 in
theorem turned_any (s d : List UInt8) (hs : s.length = 32) (hd : d.length = 32) (at_ n : Nat) (ha : at_ < 256) (hn : at_ % 96 = n) (c : UInt8) (w : World) :
    Calls Try.prog 13 #[.agg (bytesA s), .agg (bytesA d), .int .u8 (at_ : Int), .int .u8 (b8 c)] w fun e w' => e = .returned (.bool true) ∧ Below w.heap.size w w' := by
  have HIS : Hid ((Try.prog.info? 28).map (·.size) = some (s.map V8).length) := Lib.hid (by rw [List.length_map, hs]; kernel_rfl)
  have HID : Hid ((Try.prog.info? 28).map (·.size) = some (d.map V8).length) := Lib.hid (by rw [List.length_map, hd]; kernel_rfl)
  obtain ⟨W1, hW1, hb1, hn1, hn2, hsz⟩ := two_new w (.cells (bytesA s) 28) (.cells (bytesA d) 28)
  go_enter Try.func13, Try.ntmps13
  go_wp2_with fail
  try rw [hW1]
  refine (alive_any W1).mono ?_
  rintro e W2 ⟨rfl, hb2⟩
  have hz2 := hb2.size
  have HS0 : Hid (W2.heap[w.heap.size]? = _) := Lib.hid ((hb2.block _ (by omega)).trans hn1)
  have HS1 := Lib.hid ((hb2.block _ (by omega)).trans hn2)
  have HBW := Lib.hid (hb1.trans (hb2.mono (by omega)))
  obtain ⟨B, hB⟩ : ∃ B, B = w.heap.size := ⟨_, rfl⟩
  rw [← hB] at HS0 HS1
  have HLT : Hid (B < W2.heap.size ∧ B + 1 < W2.heap.size) := Lib.hid (by omega)
  have hBW : w.heap.size ≤ W2.heap.size := by omega
  go_wp2_with fail
  rw [← hB]
  clear hB hb1 hn1 hn2 hW1 hb2 hz2 hsz
  refine G.wp_region_mono 6 (by kernel_rfl) (by kernel_rfl) (told2 W2.heap.size s d) (told2_stable _ s d) ⟨?_, ?_, ?_, ?_, ?_, ?_, trivial⟩ ?_
  · intro vals a w1 hb hs' hd'
    refine want rfl ?_
    have e4 : a.eval (.tmp 4) = Value.pointer (some ⟨B, 0, none⟩) := hs' 4 (by decide)
    have hl := run_loadVar_mid (P := Try.prog) w1 (B) (0) 28 (s.map V8) _ (row_range ((hb.block _ HLT.out.1).trans HS0.out)) Try.underlying28 rfl HIS.out
    refine head_val (.agg (bytesA s)) ?_ (Below.refl _ _) rfl
    generalize a.eval = ρ at *
    clear hs' hd'
    simp only [execOp, e4, Instr.loadAt, Instr.sureAddr, Sem.run_bind, Sem.run_pure, Result.andThen_ok, hl]
    rfl
  · intro vals a w1 hb hs' hd'
    refine want rfl ?_
    have e14 : a.eval (.tmp 14) = _ := (hd' 0 (by decide)).1.trans (hd' 0 (by decide)).2
    have ef : a.eval (.func 33) = .func (.func 33) #[] #[] := rfl
    refine head_call (f := 33) (args := #[.agg (bytesA s)]) ?_ ((public_any s hs w1).mono fun e w' h => ⟨_, h.1, h.2, rfl⟩)
    generalize a.eval = ρ at *
    clear hs' hd'
    go_simp
  · intro vals a w1 hb hs' hd'
    refine want rfl ?_
    have e4 : a.eval (.tmp 4) = Value.pointer (some ⟨B, 0, none⟩) := hs' 4 (by decide)
    have hl := run_loadVar_mid (P := Try.prog) w1 (B) (0) 28 (s.map V8) _ (row_range ((hb.block _ HLT.out.1).trans HS0.out)) Try.underlying28 rfl HIS.out
    refine head_val (.agg (bytesA s)) ?_ (Below.refl _ _) rfl
    generalize a.eval = ρ at *
    clear hs' hd'
    simp only [execOp, e4, Instr.loadAt, Instr.sureAddr, Sem.run_bind, Sem.run_pure, Result.andThen_ok, hl]
    rfl
  · intro vals a w1 hb hs' hd'
    refine want rfl ?_
    have e5 : a.eval (.tmp 5) = Value.pointer (some ⟨B + 1, 0, none⟩) := hs' 5 (by decide)
    have hl := run_loadVar_mid (P := Try.prog) w1 (B + 1) (0) 28 (d.map V8) _ (row_range ((hb.block _ HLT.out.2).trans HS1.out)) Try.underlying28 rfl HID.out
    refine head_val (.agg (bytesA d)) ?_ (Below.refl _ _) rfl
    generalize a.eval = ρ at *
    clear hs' hd'
    simp only [execOp, e5, Instr.loadAt, Instr.sureAddr, Sem.run_bind, Sem.run_pure, Result.andThen_ok, hl]
    rfl
  · intro vals a w1 hb hs' hd'
    refine want rfl ?_
    have e16 : a.eval (.tmp 16) = _ := (hd' 2 (by decide)).1.trans (hd' 2 (by decide)).2
    have e17 : a.eval (.tmp 17) = _ := (hd' 3 (by decide)).1.trans (hd' 3 (by decide)).2
    have ef : a.eval (.func 32) = .func (.func 32) #[] #[] := rfl
    refine head_call (f := 32) (args := #[.agg (bytesA s), .agg (bytesA d)]) ?_ ((sign_any s d hs hd w1).mono fun e w' h => by obtain ⟨g, h1, h2, h3, h4⟩ := h; exact ⟨_, h1, h4, g, rfl, Nat.le_trans hb.size h2, h3⟩)
    generalize a.eval = ρ at *
    clear hs' hd'
    go_simp
  · intro vals a w1 hb hs' hd'
    refine want rfl ?_
    refine head_val (.pointer (some ⟨w1.heap.size, 0, none⟩)) (w' := w1.alloc (.cells (bytesA (Sha.zeros 32)) 28)) ?_ ((Below.refl _ _).alloc (Nat.le_refl _) _) ⟨_, _, rfl, hb.size, heap_alloc_new _ _, rfl⟩
    generalize a.eval = ρ at *
    clear hs' hd'
    go_simp
    rfl
  intro vals W3 hb3 hall
  have h1 : vals 1 = .agg (bytesA (Sha.hash s)) := hall 1 (by omega)
  obtain ⟨g, h4, hgB, hgr⟩ := hall 4 (by omega)
  obtain ⟨k, z, h5, hkB, hkr, hkz⟩ := hall 5 (by omega)
  have h0 : vals 0 = .agg (bytesA s) := hall 0 (by omega)
  have h2 : vals 2 = .agg (bytesA s) := hall 2 (by omega)
  have h3 : vals 3 = .agg (bytesA d) := hall 3 (by omega)
  clear hall
  simp only [List.take_succ_cons, List.take_zero, List.drop_succ_cons, List.drop_zero, G.putHeads, List.zipIdx_cons, List.zipIdx_nil, List.foldl_cons, List.foldl_nil, Act.put, List.setIfInBounds_toArray, List.set_cons_zero, List.set_cons_succ, Nat.zero_add, Nat.reduceAdd, h0, h1, h2, h3, h4, h5]
  have hkz' : z.size = (bytesA (Sha.hash s)).size := by rw [size_bytesA, hash_length]; exact hkz
  refine wpList_store_row rfl 28 (.tmp 10) (.tmp 15) rfl k (bytesA (Sha.hash s)) rfl rfl 28 z hkr (by rw [size_bytesA, hash_length]; kernel_rfl) hkz' (all_bytes _) ?_
  have hne : g ≠ k := by rintro rfl; rw [hgr] at hkr; cases hkr
  obtain ⟨W4, hW4⟩ : ∃ W4, W3.setRow k (bytesA (Sha.hash s)) = W4 := ⟨_, rfl⟩
  have hb4 : Below W2.heap.size W2 W4 := by rw [← hW4]; exact below_setRow hb3 hkB _
  have hg4 : W4.heap[g]? = some (.cells (bytesA (s ++ Sha.hash (s ++ d))) 5 (0, 0)) := by rw [← hW4]; exact (setRow_other _ _ _ _ hne).trans hgr
  have hk4 : W4.heap[k]? = some (.cells (bytesA (Sha.hash s)) 28 (0, 0)) := by rw [← hW4]; exact setRow_heap _ _ _ _ _ _ hkr
  rw [hW4]
  have HB4 := Lib.hid hb4
  have HG4 := Lib.hid hg4
  have HK4 := Lib.hid hk4
  have HD4 := Lib.hid ((hb4.block _ HLT.out.2).trans HS1.out)
  have HS4 := Lib.hid ((hb4.block _ HLT.out.1).trans HS0.out)
  clear hb3 hkr hkz hkz' hgr hW4 hb4 hg4 hk4 h1 h4 h5 h0 h2 h3
  by_cases hc0 : c = 0
  · subst hc0
    have hz : b8 0 = 0 := by decide
    rw [hz]
    go_wp2_with fail
    go_ret
    exact ⟨rfl, HBW.out.trans (HB4.out.mono hBW)⟩
  · have hcb : ¬ (b8 c = 0) := by
      intro h
      apply hc0
      have : c.toNat = 0 := by unfold b8 at h; omega
      exact UInt8.toNat_inj.1 this
    have hmod : (at_ : Int) % 96 = (n : Int) := by omega
    by_cases h64 : n < 64
    · obtain ⟨y0, hy0⟩ : ∃ y, y = (s ++ Sha.hash (s ++ d)).getD n 0 := ⟨_, rfl⟩
      have hlsg : (s ++ Sha.hash (s ++ d)).length = 64 := by rw [List.length_append, hs, hash_length]
      have HCELL : W4.cell? ⟨g, n, none⟩ = some (V8 y0) := by
        refine (cell_of_row _ _ _ _ _ _ HG4.out).trans ?_
        rw [hy0]; exact bytesA_get _ _ (by omega)
      have HFRZ : W4.frozen? ⟨g, n, none⟩ = false := frozen_of_row _ _ _ _ _ HG4.out
      have HY0 := Lib.hid hy0
      have HLS := Lib.hid hlsg
      clear hy0 hlsg
      go_wp2_with fail
      rw [b8_xor]
      obtain ⟨sg, hsg⟩ : ∃ l, l = (s ++ Sha.hash (s ++ d)).set n (y0 ^^^ c) := ⟨_, rfl⟩
      obtain ⟨W5, hW5⟩ : ∃ W5, W4.setCell ⟨g, n, none⟩ (.int .u8 (b8 (y0 ^^^ c))) = W5 := ⟨_, rfl⟩
      have hgW : g ≠ B ∧ g ≠ B + 1 := by have := HLT.out; omega
      have hg5 : W5.heap[g]? = some (.cells (bytesA sg) 5 (0, 0)) := by rw [← hW5, heap_setCell_same _ _ _ _ _ _ HG4.out, hsg, ← bytesA_set]
      have hk5 : W5.heap[k]? = some (.cells (bytesA (Sha.hash s)) 28 (0, 0)) := by rw [← hW5]; exact (heap_setCell_other _ _ _ _ (Ne.symm hne)).trans HK4.out
      have hs5 : W5.heap[B]? = some (.cells (bytesA s) 28 (0, 0)) := by rw [← hW5]; exact (heap_setCell_other _ _ _ _ (Ne.symm hgW.1)).trans HS4.out
      have hd5 : W5.heap[B + 1]? = some (.cells (bytesA d) 28 (0, 0)) := by rw [← hW5]; exact (heap_setCell_other _ _ _ _ (Ne.symm hgW.2)).trans HD4.out
      have hb5 : Below W2.heap.size W2 W5 := by rw [← hW5]; exact HB4.out.setCell hgB _
      have hlg : sg.length = 64 := by rw [hsg, List.length_set]; exact HLS.out
      obtain ⟨x2, hx2⟩ : ∃ l, l = sg.take 32 := ⟨_, rfl⟩
      have hxl : x2.length = 32 := by rw [hx2, List.length_take]; omega
      have hsb : BytesAt W5 (.slice (some ⟨B, 0, none⟩) 32 32) s := row32 hs5 hs
      have hxb : BytesAt W5 (.slice (some ⟨g, 0, none⟩) 32 64) x2 := .inr ⟨g, 0, 64, by rw [hxl], by omega, by unfold maxLen; omega, (Array.getElem?_eq_some_iff.1 hg5).1, by
        have := rangeAt_take (row_range hg5) 32
        rwa [← List.map_take, ← hx2] at this⟩
      have hfal : hitB x2 s = false → isB (Sha.hash s) sg d = false := by
        intro hno
        rw [hx2, hsg] at hno
        rw [hsg]
        exact turn_sig s d n (y0 ^^^ c) hs h64 (by rw [← HY0.out]; exact xor_ne y0 c hc0) hno
      rw [hW5]
      have HG5 := Lib.hid hg5
      have HK5 := Lib.hid hk5
      have HD5 := Lib.hid hd5
      have HB5 := Lib.hid hb5
      have HSG := Lib.hid hsg
      have HX2 := Lib.hid hx2
      clear hW5 hg5 hk5 hd5 hb5 hs5 hsg hx2
      refine G.wp_region_mono 5 (by kernel_rfl) (by kernel_rfl) (tur8 B g x2 s) (tur8_stable B g x2 s) ⟨?_, ?_, ?_, ?_, ?_, trivial⟩ ?_
      · intro vals a w1 hb hs' hd'
        refine want rfl ?_
        have e4 : a.eval (.tmp 4) = Value.pointer (some ⟨B, 0, none⟩) := hs' 4 (by decide)
        refine head_val (.slice (some ⟨B, 0, none⟩) 32 32) ?_ (Below.refl _ _) rfl
        generalize a.eval = ρ at *
        clear hs' hd'
        go_simp
      · intro vals a w1 hb hs' hd'
        refine want rfl ?_
        have e11 : a.eval (.tmp 11) = Value.slice (some ⟨g, 0, none⟩) 64 64 := hs' 11 (by decide)
        refine head_val (.slice (some ⟨g, 0, none⟩) 64 64) ?_ (Below.refl _ _) rfl
        generalize a.eval = ρ at *
        clear hs' hd'
        go_simp
      · intro vals a w1 hb hs' hd'
        refine want rfl ?_
        have e47 : a.eval (.tmp 47) = _ := (hd' 1 (by decide)).1.trans (hd' 1 (by decide)).2
        have ec : a.eval (.const (.int .i64 32)) = .int .i64 32 := rfl
        refine head_val (.slice (some ⟨g, 0, none⟩) 32 64) ?_ (Below.refl _ _) rfl
        generalize a.eval = ρ at *
        clear hs' hd'
        go_simp
      · intro vals a w1 hb hs' hd'
        refine want rfl ?_
        have e46 : a.eval (.tmp 46) = _ := (hd' 0 (by decide)).1.trans (hd' 0 (by decide)).2
        have e48 : a.eval (.tmp 48) = _ := (hd' 2 (by decide)).1.trans (hd' 2 (by decide)).2
        refine head_val (.slice (some ⟨w1.heap.size, 0, none⟩) 2 2) (w' := w1.alloc (.cells #[.slice (some ⟨B, 0, none⟩) 32 32, .slice (some ⟨g, 0, none⟩) 32 64] 25)) ?_ ((Below.refl _ _).alloc (Nat.le_refl _) _) ⟨_, rfl, cell_of_row _ _ _ _ _ _ (heap_alloc_new _ _), cell_of_row _ _ _ _ _ _ (heap_alloc_new _ _), by simp⟩
        generalize a.eval = ρ at *
        clear hs' hd'
        go_simp
      · intro vals a w1 hb hs' hd'
        refine want rfl ?_
        obtain ⟨bm, em, ec0, ec1, hbm⟩ := (hd' 3 (by decide)).2
        have e49 : a.eval (.tmp 49) = .slice (some ⟨bm, 0, none⟩) 2 2 := (hd' 3 (by decide)).1.trans em
        have ef : a.eval (.func 59) = .func (.func 59) #[] #[] := rfl
        refine head_call (f := 59) (args := #[.slice (some ⟨bm, 0, none⟩) 2 2]) ?_ ((meet_any bm 2 [s, x2] w1 rfl (by omega) hbm (fun i hi => by
          match i, hi with
          | 0, _ => exact ⟨_, ec0, hsb.below hb, by show s.length ≤ _; omega⟩
          | 1, _ => exact ⟨_, ec1, hxb.below hb, by show x2.length ≤ _; omega⟩)).mono fun e w' h => by obtain ⟨r, h1, h2, h3⟩ := h; exact ⟨_, h1, h2, r, rfl, fun hr => h3 hr 1 0 (by omega) (by omega)⟩)
        generalize a.eval = ρ at *
        clear hs' hd'
        go_simp
      · intro vals W6 hb6 hall
        have h0 : vals 0 = .slice (some ⟨B, 0, none⟩) 32 32 := hall 0 (by omega)
        have h1 : vals 1 = .slice (some ⟨g, 0, none⟩) 64 64 := hall 1 (by omega)
        have h2 : vals 2 = .slice (some ⟨g, 0, none⟩) 32 64 := hall 2 (by omega)
        obtain ⟨bm, h3, _, _, _⟩ := hall 3 (by omega)
        obtain ⟨r, h4, hr⟩ := hall 4 (by omega)
        clear hall
        simp only [List.take_succ_cons, List.take_zero, List.drop_succ_cons, List.drop_zero, G.putHeads, List.zipIdx_cons, List.zipIdx_nil, List.foldl_cons, List.foldl_nil, Act.put, List.setIfInBounds_toArray, List.set_cons_zero, List.set_cons_succ, Nat.zero_add, Nat.reduceAdd, h0, h1, h2, h3, h4]
        have hd1 := (hb6.block _ (Array.getElem?_eq_some_iff.1 HD5.out).1).trans HD5.out
        have hkb : BytesAt W6 (.slice (some ⟨k, 0, none⟩) 32 32) (Sha.hash s) := (row32 HK5.out (hash_length _)).below hb6
        have hgb : BytesAt W6 (.slice (some ⟨g, 0, none⟩) 64 64) sg := by
          have := bytesAt_row HG5.out 64 (by omega) (by unfold maxLen; omega)
          rw [hlg] at this
          exact this.below hb6
        have HB6 := Lib.hid (HB5.out.trans (hb6.mono HB5.out.size))
        obtain ⟨ky, hky⟩ : ∃ l, l = Sha.hash s := ⟨_, rfl⟩
        rw [← hky] at hkb hfal
        refine wpList_nil ?_
        clear h0 h1 h2 h3 h4 hb6
        cases r with
        | true =>
          go_wp2_with fail
          go_ret
          exact ⟨rfl, HBW.out.trans (HB6.out.mono hBW)⟩
        | false =>
          have hisB := hfal (hr rfl)
          clear hfal hr
          go_wp2_with fail
          refine G.wp_region_mono 9 (by kernel_rfl) (by kernel_rfl) (tur11 k g d) (tur11_stable k g d) ⟨?_, ?_, ?_, ?_, ?_, ?_, ?_, ?_, ?_, trivial⟩ ?_
          · intro vals a w1 hb hs' hd'
            refine want rfl ?_
            have e9 : a.eval (.tmp 9) = Value.bool true := hs' 9 (by decide)
            refine head_val (.bool true) ?_ (Below.refl _ _) rfl
            generalize a.eval = ρ at *
            clear hs' hd'
            go_simp
          · intro vals a w1 hb hs' hd'
            refine want rfl ?_
            have e61 : a.eval (.tmp 61) = _ := (hd' 0 (by decide)).1.trans (hd' 0 (by decide)).2
            refine head_val (.bool true) ?_ (Below.refl _ _) rfl
            generalize a.eval = ρ at *
            clear hs' hd'
            go_simp
          · intro vals a w1 hb hs' hd'
            refine want (gd_some rfl (hd' 1 (by decide)).2) ?_
            have e10 : a.eval (.tmp 10) = Value.pointer (some ⟨k, 0, none⟩) := hs' 10 (by decide)
            refine head_val (.slice (some ⟨k, 0, none⟩) 32 32) ?_ (Below.refl _ _) rfl
            generalize a.eval = ρ at *
            clear hs' hd'
            go_simp
          · intro vals a w1 hb hs' hd'
            refine want (gd_some rfl (hd' 1 (by decide)).2) ?_
            have e11 : a.eval (.tmp 11) = Value.slice (some ⟨g, 0, none⟩) 64 64 := hs' 11 (by decide)
            refine head_val (.slice (some ⟨g, 0, none⟩) 64 64) ?_ (Below.refl _ _) rfl
            generalize a.eval = ρ at *
            clear hs' hd'
            go_simp
          · intro vals a w1 hb hs' hd'
            refine want (gd_some rfl (hd' 1 (by decide)).2) ?_
            have e5 : a.eval (.tmp 5) = Value.pointer (some ⟨B + 1, 0, none⟩) := hs' 5 (by decide)
            have hl := run_loadVar_mid (P := Try.prog) w1 (B + 1) (0) 28 (d.map V8) _ (row_range ((hb.block _ (Array.getElem?_eq_some_iff.1 hd1).1).trans hd1)) Try.underlying28 rfl HID
            refine head_val (.agg (bytesA d)) ?_ (Below.refl _ _) rfl
            generalize a.eval = ρ at *
            clear hs' hd'
            simp only [execOp, e5, Instr.loadAt, Instr.sureAddr, Sem.run_bind, Sem.run_pure, Result.andThen_ok, hl]
            rfl
          · intro vals a w1 hb hs' hd'
            refine want (gd_some rfl (hd' 1 (by decide)).2) ?_
            have e63 : a.eval (.tmp 63) = _ := (hd' 2 (by decide)).1.trans (hd' 2 (by decide)).2
            have e64 : a.eval (.tmp 64) = _ := (hd' 3 (by decide)).1.trans (hd' 3 (by decide)).2
            have e65 : a.eval (.tmp 65) = _ := (hd' 4 (by decide)).1.trans (hd' 4 (by decide)).2
            have ef : a.eval (.func 44) = .func (.func 44) #[] #[] := rfl
            refine head_call (f := 44) (args := #[.slice (some ⟨k, 0, none⟩) 32 32, .slice (some ⟨g, 0, none⟩) 64 64, .agg (bytesA d)]) ?_ ((is_any _ _ ky sg d hd w1 (hkb.below hb) (hgb.below hb)).mono fun e w' h => ⟨_, h.1, h.2, by rw [hisB]; rfl⟩)
            generalize a.eval = ρ at *
            clear hs' hd'
            go_simp
          · intro vals a w1 hb hs' hd'
            refine want (gd_some rfl (hd' 1 (by decide)).2) ?_
            have e66 : a.eval (.tmp 66) = _ := (hd' 5 (by decide)).1.trans (hd' 5 (by decide)).2
            refine head_val (.bool true) ?_ (Below.refl _ _) rfl
            generalize a.eval = ρ at *
            clear hs' hd'
            go_simp
          · intro vals a w1 hb hs' hd'
            refine want rfl ?_
            have e62 : a.eval (.tmp 62) = _ := (hd' 1 (by decide)).1.trans (hd' 1 (by decide)).2
            have e67 : a.eval (.tmp 67) = _ := (hd' 6 (by decide)).1.trans (hd' 6 (by decide)).2
            have ec : a.eval (.const (.bool false)) = .bool false := rfl
            refine head_val (.bool true) ?_ (Below.refl _ _) rfl
            generalize a.eval = ρ at *
            clear hs' hd'
            go_simp
          · intro vals a w1 hb hs' hd'
            refine want rfl ?_
            have e68 : a.eval (.tmp 68) = _ := (hd' 7 (by decide)).1.trans (hd' 7 (by decide)).2
            refine head_val (.bool true) ?_ (Below.refl _ _) rfl
            generalize a.eval = ρ at *
            clear hs' hd'
            go_simp
          · intro vals W8 hb8 hall
            have h8 : vals 8 = .bool true := hall 8 (by omega)
            have HB8 := Lib.hid (HB6.out.trans (hb8.mono HB6.out.size))
            clear hall hb8
            simp only [List.take_succ_cons, List.take_zero, List.drop_succ_cons, List.drop_zero, G.putHeads, List.zipIdx_cons, List.zipIdx_nil, List.foldl_cons, List.foldl_nil, Act.put, List.setIfInBounds_toArray, List.set_cons_zero, List.set_cons_succ, Nat.zero_add, Nat.reduceAdd, h8]
            refine wpList_nil ?_
            go_wp2_with fail
            go_ret
            exact ⟨rfl, HBW.out.trans (HB8.out.mono hBW)⟩
    · obtain ⟨y0, hy0⟩ : ∃ y, y = (Sha.hash s).getD (n - 64) 0 := ⟨_, rfl⟩
      have hn96 : n - 64 < 32 := by omega
      obtain ⟨p, hp⟩ : ∃ p, n = p + 64 := ⟨n - 64, by omega⟩
      subst hp
      rw [Nat.add_sub_cancel] at hy0 hn96
      have HCELL : W4.cell? ⟨k, p, none⟩ = some (V8 y0) := by
        refine (cell_of_row _ _ _ _ _ _ HK4.out).trans ?_
        rw [hy0]; exact bytesA_get _ _ (by rw [hash_length]; omega)
      have HFRZ : W4.frozen? ⟨k, p, none⟩ = false := frozen_of_row _ _ _ _ _ HK4.out
      have HY0 := Lib.hid hy0
      have hsub : (at_ : Int) % 96 - 64 = (p : Int) := by omega
      clear hy0
      go_wp2_with fail
      rw [b8_xor]
      obtain ⟨ky, hky⟩ : ∃ l, l = (Sha.hash s).set p (y0 ^^^ c) := ⟨_, rfl⟩
      obtain ⟨sg, hsg⟩ : ∃ l, l = s ++ Sha.hash (s ++ d) := ⟨_, rfl⟩
      obtain ⟨W5, hW5⟩ : ∃ W5, W4.setCell ⟨k, p, none⟩ (.int .u8 (b8 (y0 ^^^ c))) = W5 := ⟨_, rfl⟩
      have hkW : k ≠ B + 1 := by have := HLT.out; omega
      have hk5 : W5.heap[k]? = some (.cells (bytesA ky) 28 (0, 0)) := by rw [← hW5, heap_setCell_same _ _ _ _ _ _ HK4.out, hky, ← bytesA_set]
      have hg5 : W5.heap[g]? = some (.cells (bytesA sg) 5 (0, 0)) := by rw [← hW5, hsg]; exact (heap_setCell_other _ _ _ _ hne).trans HG4.out
      have hd1 : W5.heap[B + 1]? = some (.cells (bytesA d) 28 (0, 0)) := by rw [← hW5]; exact (heap_setCell_other _ _ _ _ (Ne.symm hkW)).trans HD4.out
      have HB5 : Hid (Below W2.heap.size W2 W5) := Lib.hid (by rw [← hW5]; exact HB4.out.setCell hkB _)
      have hlg : sg.length = 64 := by rw [hsg, List.length_append, hs, hash_length]
      have hkl : ky.length = 32 := by rw [hky, List.length_set, hash_length]
      have hkb : BytesAt W5 (.slice (some ⟨k, 0, none⟩) 32 32) ky := row32 hk5 hkl
      have hgb : BytesAt W5 (.slice (some ⟨g, 0, none⟩) 64 64) sg := by
        have := bytesAt_row hg5 64 (by omega) (by unfold maxLen; omega)
        rwa [hlg] at this
      have hisB : isB ky sg d = false := by
        rw [hky, hsg]
        exact turn_key s d p (y0 ^^^ c) hs hn96 (by rw [← HY0.out]; exact xor_ne y0 c hc0)
      rw [hW5]
      clear hW5 hk5 hg5
      refine G.wp_region_mono 9 (by kernel_rfl) (by kernel_rfl) (tur11 k g d) (tur11_stable k g d) ⟨?_, ?_, ?_, ?_, ?_, ?_, ?_, ?_, ?_, trivial⟩ ?_
      · intro vals a w1 hb hs' hd'
        refine want rfl ?_
        have e9 : a.eval (.tmp 9) = Value.bool true := hs' 9 (by decide)
        refine head_val (.bool true) ?_ (Below.refl _ _) rfl
        generalize a.eval = ρ at *
        clear hs' hd'
        go_simp
      · intro vals a w1 hb hs' hd'
        refine want rfl ?_
        have e61 : a.eval (.tmp 61) = _ := (hd' 0 (by decide)).1.trans (hd' 0 (by decide)).2
        refine head_val (.bool true) ?_ (Below.refl _ _) rfl
        generalize a.eval = ρ at *
        clear hs' hd'
        go_simp
      · intro vals a w1 hb hs' hd'
        refine want (gd_some rfl (hd' 1 (by decide)).2) ?_
        have e10 : a.eval (.tmp 10) = Value.pointer (some ⟨k, 0, none⟩) := hs' 10 (by decide)
        refine head_val (.slice (some ⟨k, 0, none⟩) 32 32) ?_ (Below.refl _ _) rfl
        generalize a.eval = ρ at *
        clear hs' hd'
        go_simp
      · intro vals a w1 hb hs' hd'
        refine want (gd_some rfl (hd' 1 (by decide)).2) ?_
        have e11 : a.eval (.tmp 11) = Value.slice (some ⟨g, 0, none⟩) 64 64 := hs' 11 (by decide)
        refine head_val (.slice (some ⟨g, 0, none⟩) 64 64) ?_ (Below.refl _ _) rfl
        generalize a.eval = ρ at *
        clear hs' hd'
        go_simp
      · intro vals a w1 hb hs' hd'
        refine want (gd_some rfl (hd' 1 (by decide)).2) ?_
        have e5 : a.eval (.tmp 5) = Value.pointer (some ⟨B + 1, 0, none⟩) := hs' 5 (by decide)
        have hl := run_loadVar_mid (P := Try.prog) w1 (B + 1) (0) 28 (d.map V8) _ (row_range ((hb.block _ (Array.getElem?_eq_some_iff.1 hd1).1).trans hd1)) Try.underlying28 rfl HID
        refine head_val (.agg (bytesA d)) ?_ (Below.refl _ _) rfl
        generalize a.eval = ρ at *
        clear hs' hd'
        simp only [execOp, e5, Instr.loadAt, Instr.sureAddr, Sem.run_bind, Sem.run_pure, Result.andThen_ok, hl]
        rfl
      · intro vals a w1 hb hs' hd'
        refine want (gd_some rfl (hd' 1 (by decide)).2) ?_
        have e63 : a.eval (.tmp 63) = _ := (hd' 2 (by decide)).1.trans (hd' 2 (by decide)).2
        have e64 : a.eval (.tmp 64) = _ := (hd' 3 (by decide)).1.trans (hd' 3 (by decide)).2
        have e65 : a.eval (.tmp 65) = _ := (hd' 4 (by decide)).1.trans (hd' 4 (by decide)).2
        have ef : a.eval (.func 44) = .func (.func 44) #[] #[] := rfl
        refine head_call (f := 44) (args := #[.slice (some ⟨k, 0, none⟩) 32 32, .slice (some ⟨g, 0, none⟩) 64 64, .agg (bytesA d)]) ?_ ((is_any _ _ ky sg d hd w1 (hkb.below hb) (hgb.below hb)).mono fun e w' h => ⟨_, h.1, h.2, by rw [hisB]; rfl⟩)
        generalize a.eval = ρ at *
        clear hs' hd'
        go_simp
      · intro vals a w1 hb hs' hd'
        refine want (gd_some rfl (hd' 1 (by decide)).2) ?_
        have e66 : a.eval (.tmp 66) = _ := (hd' 5 (by decide)).1.trans (hd' 5 (by decide)).2
        refine head_val (.bool true) ?_ (Below.refl _ _) rfl
        generalize a.eval = ρ at *
        clear hs' hd'
        go_simp
      · intro vals a w1 hb hs' hd'
        refine want rfl ?_
        have e62 : a.eval (.tmp 62) = _ := (hd' 1 (by decide)).1.trans (hd' 1 (by decide)).2
        have e67 : a.eval (.tmp 67) = _ := (hd' 6 (by decide)).1.trans (hd' 6 (by decide)).2
        have ec : a.eval (.const (.bool false)) = .bool false := rfl
        refine head_val (.bool true) ?_ (Below.refl _ _) rfl
        generalize a.eval = ρ at *
        clear hs' hd'
        go_simp
      · intro vals a w1 hb hs' hd'
        refine want rfl ?_
        have e68 : a.eval (.tmp 68) = _ := (hd' 7 (by decide)).1.trans (hd' 7 (by decide)).2
        refine head_val (.bool true) ?_ (Below.refl _ _) rfl
        generalize a.eval = ρ at *
        clear hs' hd'
        go_simp
      · intro vals W8 hb8 hall
        have h8 : vals 8 = .bool true := hall 8 (by omega)
        have HB8 := Lib.hid (HB5.out.trans (hb8.mono HB5.out.size))
        clear hall hb8
        simp only [List.take_succ_cons, List.take_zero, List.drop_succ_cons, List.drop_zero, G.putHeads, List.zipIdx_cons, List.zipIdx_nil, List.foldl_cons, List.foldl_nil, Act.put, List.setIfInBounds_toArray, List.set_cons_zero, List.set_cons_succ, Nat.zero_add, Nat.reduceAdd, h8]
        refine wpList_nil ?_
        go_wp2_with fail
        go_ret
        exact ⟨rfl, HBW.out.trans (HB8.out.mono hBW)⟩
end Go.Proofs.Ytdecbimklomdjaa
