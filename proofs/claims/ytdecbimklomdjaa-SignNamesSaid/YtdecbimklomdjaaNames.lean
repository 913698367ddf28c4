/- purserlaw09.SignNames: its walk. -/
import Derived.Test.YtdecbimklomdjaaTold
import Derived.Test.YtdecbimklomdjaaMeet
namespace Go.Proofs.Ytdecbimklomdjaa
open Go Go.RowKit Go.Shelf
theorem isB_short (k sg d : List UInt8) (h : k.length ≠ 32) : isB k sg d = false := by
  unfold isB
  rw [beq_eq_false_iff_ne.2 h]; rfl
theorem isB_long (k sg d : List UInt8) (h : sg.length ≠ 64) : isB k sg d = false := by
  unfold isB
  rw [beq_eq_false_iff_ne.2 h, Bool.and_false]; rfl
def nam5 (k g : Nat) : Nat → Value → World → Prop
  | 0, v, _ => v = .slice (some ⟨k, 0, none⟩) 31 32
  | 1, v, _ => v = .slice (some ⟨g, 0, none⟩) 64 64
  | 2, v, _ => v = .agg (bytesA (hz 8))
  | 3, v, _ => v = .bool false
  | 6, v, _ => v = .slice (some ⟨k, 0, none⟩) 32 32
  | 7, v, _ => v = .slice (some ⟨g, 0, none⟩) 64 64
  | 8, v, _ => v = .slice (some ⟨g, 0, none⟩) 63 64
  | 9, v, _ => v = .agg (bytesA (hz 8))
  | 10, v, _ => v = .bool false
  | 14, v, _ => v = .slice (some ⟨k, 0, none⟩) 32 32
  | 15, v, _ => v = .slice (some ⟨g, 0, none⟩) 64 64
  | 16, v, w => ∃ b, v = .slice (some ⟨b, 0, none⟩) 1 1 ∧ w.cell? ⟨b, 0, none⟩ = some (V8 0) ∧ b < w.heap.size
  | 17, v, w => BytesAt w v ((hz 9 ++ Sha.hash (hz 9 ++ hz 8)) ++ [0])
  | 18, v, _ => v = .agg (bytesA (hz 8))
  | 19, v, _ => v = .bool false
  | 23, v, _ => v = .agg (bytesA (hz 8))
  | 24, v, _ => v = .bool false
  | 28, v, _ => v = .slice (some ⟨k, 0, none⟩) 32 32
  | 29, v, w => ∃ b, v = .slice (some ⟨b, 0, none⟩) 1 1 ∧ w.cell? ⟨b, 0, none⟩ = some (V8 0) ∧ b < w.heap.size
  | 30, v, w => BytesAt w v (Sha.hash (hz 9) ++ [0])
  | 31, v, _ => v = .slice (some ⟨g, 0, none⟩) 64 64
  | 32, v, _ => v = .agg (bytesA (hz 8))
  | 33, v, _ => v = .bool false
  | _, v, _ => v = .bool true
theorem nam5_stable (k g i : Nat) (v : Value) (w w' : World) (h : nam5 k g i v w) (hb : Below w.heap.size w w') : nam5 k g i v w' := by
  unfold nam5 at *
  split at h
  all_goals first | exact h | exact h.below hb | (obtain ⟨b, h1, h2, h3⟩ := h; exact ⟨b, h1, (hb.cell (p := ⟨b, 0, none⟩) h3).trans h2, Nat.lt_of_lt_of_le h3 hb.size⟩)
def nam8 (g x4 x5 : Nat) : Nat → Value → World → Prop
  | 7, v, _ => v = .slice (some ⟨g, 0, none⟩) 64 64
  | 8, v, _ => v = .slice (some ⟨g, 0, none⟩) 32 64
  | 9, v, _ => v = .string ⟨(hz 9).toArray⟩
  | 10, v, _ => v = .slice (some ⟨x4, 0, none⟩) 32 32
  | 11, v, _ => v = .string ⟨(hz 9).toArray⟩
  | 15, v, _ => v = .slice (some ⟨g, 0, none⟩) 64 64
  | 16, v, _ => v = .slice (some ⟨g, 32, none⟩) 32 32
  | 17, v, _ => v = .string ⟨(Sha.hash (hz 9 ++ hz 8)).toArray⟩
  | 18, v, _ => v = .slice (some ⟨x5, 0, none⟩) 32 32
  | 19, v, _ => v = .string ⟨(Sha.hash (hz 9 ++ hz 8)).toArray⟩
  | 23, v, _ => v = .agg (bytesA (Sha.hash (hz 9)))
  | 24, v, _ => v = .slice (some ⟨x4, 0, none⟩) 32 32
  | 25, v, _ => v = .agg (bytesA (Sha.hash (hz 9)))
  | _, v, _ => v = .bool true
theorem nam8_stable (g x4 x5 i : Nat) (v : Value) (w w' : World) (h : nam8 g x4 x5 i v w) (_ : Below w.heap.size w w') : nam8 g x4 x5 i v w' := by
  unfold nam8 at *
  split at h <;> exact h
theorem sub_at {w : World} {g o n c : Nat} {l : List Value} {x : List UInt8} (h : w.rangeAt g o l) (hx : l.take n = x.map V8) (hn : x.length = n) (hc : n ≤ c) (hm : c ≤ maxLen) (hg : g < w.heap.size) : BytesAt w (.slice (some ⟨g, o, none⟩) n c) x :=
  .inr ⟨g, o, c, by rw [hn], by omega, hm, hg, by rw [← hx]; exact rangeAt_take h n⟩
set_option maxRecDepth 100000 in
set_option maxHeartbeats 4000000 in
theorem names_any (w : World) : Calls Try.prog 11 #[] w fun e w' => e = .returned (.bool true) ∧ Below w.heap.size w w' := by
  have h9 : (hz 9).length = 32 := rfl
  have hl9 : (hz 9 ++ Sha.hash (hz 9 ++ hz 8)).length = 64 := by rw [List.length_append, hash_length]; rfl
  obtain ⟨i0, hi, hz0, hz1, hz2⟩ := info_parts info5
  have HI := Lib.hid hi
  have HI0 := Lib.hid hz0
  have HI1 := Lib.hid hz1
  have HI2 := Lib.hid hz2
  have HIK : Hid ((Try.prog.info? 28).map (·.size) = some ((Sha.hash (hz 9)).map V8).length) := Lib.hid (by rw [List.length_map, hash_length]; kernel_rfl)
  clear hi hz0 hz1 hz2
  go_enter Try.func11, Try.ntmps11
  go_wp2_with fail
  change Calls Try.prog 33 #[.agg (bytesA (hz 9))] _ _
  refine (public_any (hz 9) rfl w).mono ?_
  rintro e W1 ⟨rfl, hb1⟩
  obtain ⟨W2, hW2⟩ : ∃ W2, W1.alloc (.cells (bytesA (Sha.hash (hz 9))) 28) = W2 := ⟨_, rfl⟩
  have HB1 := Lib.hid hb1
  clear hb1
  go_wp2_with ((with_reducible refine wpList_store_row ?_ 28 (.tmp 1) (.tmp 7) ?_ W1.heap.size (bytesA (Sha.hash (hz 9))) ?_ ?_ 28 _ (heap_alloc_new W1 _) ?_ ?_ ?_ ?_);  (next => rfl); (next => rfl); (next => rfl); (next => rfl); (next => rw [size_bytesA, hash_length]; kernel_rfl); (next => rw [size_bytesA, hash_length]; rfl); (next => exact all_bytes _); rw [World.setRow_alloc_new, hW2])
  change Calls Try.prog 32 #[.agg (bytesA (hz 9)), .agg (bytesA (hz 8))] _ _
  have hb2 : Below W1.heap.size W1 W2 := by rw [← hW2]; exact (Below.refl _ _).alloc (Nat.le_refl _) _
  have hn2 : W2.heap[W1.heap.size]? = some (.cells (bytesA (Sha.hash (hz 9))) 28 (0, 0)) := by rw [← hW2]; exact heap_alloc_new _ _
  have HB2 := Lib.hid (HB1.out.trans (hb2.mono HB1.out.size))
  have HN2 := Lib.hid hn2
  obtain ⟨k, hk⟩ : ∃ k, W1.heap.size = k := ⟨_, rfl⟩
  rw [hk] at HN2
  rw [hk]
  clear hb2 hn2 hW2
  refine (sign_any (hz 9) (hz 8) rfl rfl W2).mono ?_
  rintro e W3 ⟨g, rfl, hgW, hg3, hb3⟩
  have HRK := Lib.hid (block_below hb3 HN2.out)
  have HRG := Lib.hid hg3
  have HB3 := Lib.hid (HB2.out.trans (hb3.mono HB2.out.size))
  clear hg3 hb3 hk
  go_wp2_with fail
  have HK32 := Lib.hid (row32 HRK.out (hash_length (hz 9)))
  have HSG := Lib.hid (sig_at HRG.out)
  have HK31 : Hid (BytesAt W3 (.slice (some ⟨k, 0, none⟩) 31 32) ((Sha.hash (hz 9)).take 31)) := Lib.hid (sub_at (row_range HRK.out) (by rw [List.map_take]) (by simp [hash_length]) (by omega) (by unfold maxLen; omega) (Array.getElem?_eq_some_iff.1 HRK.out).1)
  have HS63 : Hid (BytesAt W3 (.slice (some ⟨g, 0, none⟩) 63 64) ((hz 9 ++ Sha.hash (hz 9 ++ hz 8)).take 63)) := Lib.hid (sub_at (row_range HRG.out) (by rw [List.map_take]) (by rw [List.length_take, hl9]; rfl) (by omega) (by unfold maxLen; omega) (Array.getElem?_eq_some_iff.1 HRG.out).1)
  refine G.wp_region_mono 37 (by kernel_rfl) (by kernel_rfl) (nam5 k g) (nam5_stable k g) ⟨?_, ?_, ?_, ?_, ?_, ?_, ?_, ?_, ?_, ?_, ?_, ?_, ?_, ?_, ?_, ?_, ?_, ?_, ?_, ?_, ?_, ?_, ?_, ?_, ?_, ?_, ?_, ?_, ?_, ?_, ?_, ?_, ?_, ?_, ?_, ?_, ?_, trivial⟩ ?_
  · intro vals a w1 hb hs' hd'
    refine want rfl ?_
    have e1 : a.eval (.tmp 1) = Value.pointer (some ⟨k, 0, none⟩) := hs' 1 (by decide)
    have ec : a.eval (.const (.int .i64 31)) = .int .i64 31 := rfl
    refine head_val (.slice (some ⟨k, 0, none⟩) 31 32) ?_ (Below.refl _ _) rfl
    generalize a.eval = ρ at *
    clear hs' hd'
    go_simp
  · intro vals a w1 hb hs' hd'
    refine want rfl ?_
    have e2 : a.eval (.tmp 2) = Value.slice (some ⟨g, 0, none⟩) 64 64 := hs' 2 (by decide)
    refine head_val (.slice (some ⟨g, 0, none⟩) 64 64) ?_ (Below.refl _ _) rfl
    generalize a.eval = ρ at *
    clear hs' hd'
    go_simp
  · intro vals a w1 hb hs' hd'
    refine want rfl ?_
    have ec : a.eval (.const (.int .u8 8)) = .int .u8 8 := rfl
    refine head_val (.agg (bytesA (hz 8))) ?_ (Below.refl _ _) rfl
    generalize a.eval = ρ at *
    clear hs' hd'
    go_simp
    rfl
  · intro vals a w1 hb hs' hd'
    refine want rfl ?_
    have e14 : a.eval (.tmp 14) = _ := (hd' 0 (by decide)).1.trans (hd' 0 (by decide)).2
    have e15 : a.eval (.tmp 15) = _ := (hd' 1 (by decide)).1.trans (hd' 1 (by decide)).2
    have e16 : a.eval (.tmp 16) = _ := (hd' 2 (by decide)).1.trans (hd' 2 (by decide)).2
    have ef : a.eval (.func 44) = .func (.func 44) #[] #[] := rfl
    refine head_call (f := 44) (args := #[.slice (some ⟨k, 0, none⟩) 31 32, .slice (some ⟨g, 0, none⟩) 64 64, .agg (bytesA (hz 8))]) ?_ ((is_any _ _ ((Sha.hash (hz 9)).take 31) (hz 9 ++ Sha.hash (hz 9 ++ hz 8)) (hz 8) rfl w1 (HK31.out.below hb) (HSG.out.below hb)).mono fun e w' h => ⟨_, h.1, h.2, by rw [isB_short _ _ _ (by simp [hash_length])]; rfl⟩)
    generalize a.eval = ρ at *
    clear hs' hd'
    go_simp
  · intro vals a w1 hb hs' hd'
    refine want rfl ?_
    have e17 : a.eval (.tmp 17) = _ := (hd' 3 (by decide)).1.trans (hd' 3 (by decide)).2
    refine head_val (.bool true) ?_ (Below.refl _ _) rfl
    generalize a.eval = ρ at *
    clear hs' hd'
    go_simp
  · intro vals a w1 hb hs' hd'
    refine want rfl ?_
    have e18 : a.eval (.tmp 18) = _ := (hd' 4 (by decide)).1.trans (hd' 4 (by decide)).2
    refine head_val (.bool true) ?_ (Below.refl _ _) rfl
    generalize a.eval = ρ at *
    clear hs' hd'
    go_simp
  · intro vals a w1 hb hs' hd'
    refine want (gd_some rfl (hd' 5 (by decide)).2) ?_
    have e1 : a.eval (.tmp 1) = Value.pointer (some ⟨k, 0, none⟩) := hs' 1 (by decide)
    refine head_val (.slice (some ⟨k, 0, none⟩) 32 32) ?_ (Below.refl _ _) rfl
    generalize a.eval = ρ at *
    clear hs' hd'
    go_simp
  · intro vals a w1 hb hs' hd'
    refine want (gd_some rfl (hd' 5 (by decide)).2) ?_
    have e2 : a.eval (.tmp 2) = Value.slice (some ⟨g, 0, none⟩) 64 64 := hs' 2 (by decide)
    refine head_val (.slice (some ⟨g, 0, none⟩) 64 64) ?_ (Below.refl _ _) rfl
    generalize a.eval = ρ at *
    clear hs' hd'
    go_simp
  · intro vals a w1 hb hs' hd'
    refine want (gd_some rfl (hd' 5 (by decide)).2) ?_
    have e21 : a.eval (.tmp 21) = _ := (hd' 7 (by decide)).1.trans (hd' 7 (by decide)).2
    have ec : a.eval (.const (.int .i64 63)) = .int .i64 63 := rfl
    refine head_val (.slice (some ⟨g, 0, none⟩) 63 64) ?_ (Below.refl _ _) rfl
    generalize a.eval = ρ at *
    clear hs' hd'
    go_simp
  · intro vals a w1 hb hs' hd'
    refine want (gd_some rfl (hd' 5 (by decide)).2) ?_
    have ec : a.eval (.const (.int .u8 8)) = .int .u8 8 := rfl
    refine head_val (.agg (bytesA (hz 8))) ?_ (Below.refl _ _) rfl
    generalize a.eval = ρ at *
    clear hs' hd'
    go_simp
    rfl
  · intro vals a w1 hb hs' hd'
    refine want (gd_some rfl (hd' 5 (by decide)).2) ?_
    have e20 : a.eval (.tmp 20) = _ := (hd' 6 (by decide)).1.trans (hd' 6 (by decide)).2
    have e22 : a.eval (.tmp 22) = _ := (hd' 8 (by decide)).1.trans (hd' 8 (by decide)).2
    have e23 : a.eval (.tmp 23) = _ := (hd' 9 (by decide)).1.trans (hd' 9 (by decide)).2
    have ef : a.eval (.func 44) = .func (.func 44) #[] #[] := rfl
    refine head_call (f := 44) (args := #[.slice (some ⟨k, 0, none⟩) 32 32, .slice (some ⟨g, 0, none⟩) 63 64, .agg (bytesA (hz 8))]) ?_ ((is_any _ _ (Sha.hash (hz 9)) ((hz 9 ++ Sha.hash (hz 9 ++ hz 8)).take 63) (hz 8) rfl w1 (HK32.out.below hb) (HS63.out.below hb)).mono fun e w' h => ⟨_, h.1, h.2, by rw [isB_long _ _ _ (by simp [hash_length, hz])]; rfl⟩)
    generalize a.eval = ρ at *
    clear hs' hd'
    go_simp
  · intro vals a w1 hb hs' hd'
    refine want (gd_some rfl (hd' 5 (by decide)).2) ?_
    have e24 : a.eval (.tmp 24) = _ := (hd' 10 (by decide)).1.trans (hd' 10 (by decide)).2
    refine head_val (.bool true) ?_ (Below.refl _ _) rfl
    generalize a.eval = ρ at *
    clear hs' hd'
    go_simp
  · intro vals a w1 hb hs' hd'
    refine want rfl ?_
    have e19 : a.eval (.tmp 19) = _ := (hd' 5 (by decide)).1.trans (hd' 5 (by decide)).2
    have e25 : a.eval (.tmp 25) = _ := (hd' 11 (by decide)).1.trans (hd' 11 (by decide)).2
    have ec : a.eval (.const (.bool false)) = .bool false := rfl
    refine head_val (.bool true) ?_ (Below.refl _ _) rfl
    generalize a.eval = ρ at *
    clear hs' hd'
    go_simp
  · intro vals a w1 hb hs' hd'
    refine want rfl ?_
    have e26 : a.eval (.tmp 26) = _ := (hd' 12 (by decide)).1.trans (hd' 12 (by decide)).2
    refine head_val (.bool true) ?_ (Below.refl _ _) rfl
    generalize a.eval = ρ at *
    clear hs' hd'
    go_simp
  · intro vals a w1 hb hs' hd'
    refine want (gd_some rfl (hd' 13 (by decide)).2) ?_
    have e1 : a.eval (.tmp 1) = Value.pointer (some ⟨k, 0, none⟩) := hs' 1 (by decide)
    refine head_val (.slice (some ⟨k, 0, none⟩) 32 32) ?_ (Below.refl _ _) rfl
    generalize a.eval = ρ at *
    clear hs' hd'
    go_simp
  · intro vals a w1 hb hs' hd'
    refine want (gd_some rfl (hd' 13 (by decide)).2) ?_
    have e2 : a.eval (.tmp 2) = Value.slice (some ⟨g, 0, none⟩) 64 64 := hs' 2 (by decide)
    refine head_val (.slice (some ⟨g, 0, none⟩) 64 64) ?_ (Below.refl _ _) rfl
    generalize a.eval = ρ at *
    clear hs' hd'
    go_simp
  · intro vals a w1 hb hs' hd'
    refine want (gd_some rfl (hd' 13 (by decide)).2) ?_
    have ec : a.eval (.const (.int .u8 0)) = .int .u8 0 := rfl
    refine head_val (.slice (some ⟨w1.heap.size, 0, none⟩) 1 1) (w' := w1.alloc (.cells #[V8 0] 5)) ?_ ((Below.refl _ _).alloc (Nat.le_refl _) _) ⟨_, rfl, cell_of_row _ _ _ _ _ _ (heap_alloc_new _ _), by simp⟩
    generalize a.eval = ρ at *
    clear hs' hd'
    go_simp
    rfl
  · intro vals a w1 hb hs' hd'
    refine want (gd_some rfl (hd' 13 (by decide)).2) ?_
    have e29 : a.eval (.tmp 29) = _ := (hd' 15 (by decide)).1.trans (hd' 15 (by decide)).2
    obtain ⟨b1, eb, ec1, hlt1⟩ := (hd' 16 (by decide)).2
    have e30 : a.eval (.tmp 30) = .slice (some ⟨b1, 0, none⟩) 1 1 := (hd' 16 (by decide)).1.trans eb
    obtain ⟨v', w', hrun, r1, r2⟩ := run_append_arg_grows (P := Try.prog) w1 25 25 5 i0 (.int .u8 0) 1 1 Try.underlying25 HI.out HI0.out HI1.out HI2.out rfl (by decide) ⟨g, 0, none⟩ 64 64 ((hz 9 ++ Sha.hash (hz 9 ++ hz 8)).map V8) (by simp [hash_length, hz]) (cells_at (row_range ((hb.block _ (Array.getElem?_eq_some_iff.1 HRG.out).1).trans HRG.out))) ⟨b1, 0, none⟩ 1 1 [V8 0] rfl (cells_at (fun j u hu => by
      match j, hu with
      | 0, hu => cases hu; exact ec1
      | j + 1, hu => simp at hu)) (by omega) (by unfold maxLen; omega) (by omega)
    have hown : w'.ownsRow w1.heap.size 5 1 v' ((hz 9 ++ Sha.hash (hz 9 ++ hz 8)) ++ [0]).length (((hz 9 ++ Sha.hash (hz 9 ++ hz 8)) ++ [0]).map V8) := by
      have hl : ((hz 9 ++ Sha.hash (hz 9 ++ hz 8)) ++ [0]).length = 64 + 1 := by simp [hash_length, hz]
      rw [hl, List.map_append]; exact r1
    refine head_val v' (w' := w') ?_ (below_of_grown r2 (by simp)) (BytesAt.of_owns hown)
    simp only [execOp, resolve, invoke, builtin, e29, e30, Sem.run_bind, Sem.run_pure, Result.andThen_ok, List.map_toArray, List.map_cons, List.map_nil, hrun]
  · intro vals a w1 hb hs' hd'
    refine want (gd_some rfl (hd' 13 (by decide)).2) ?_
    have ec : a.eval (.const (.int .u8 8)) = .int .u8 8 := rfl
    refine head_val (.agg (bytesA (hz 8))) ?_ (Below.refl _ _) rfl
    generalize a.eval = ρ at *
    clear hs' hd'
    go_simp
    rfl
  · intro vals a w1 hb hs' hd'
    refine want (gd_some rfl (hd' 13 (by decide)).2) ?_
    have e28 : a.eval (.tmp 28) = _ := (hd' 14 (by decide)).1.trans (hd' 14 (by decide)).2
    have e31 : a.eval (.tmp 31) = vals 17 := (hd' 17 (by decide)).1
    have p31 := (hd' 17 (by decide)).2
    simp only [nam5] at p31
    have e32 : a.eval (.tmp 32) = _ := (hd' 18 (by decide)).1.trans (hd' 18 (by decide)).2
    have ef : a.eval (.func 44) = .func (.func 44) #[] #[] := rfl
    refine head_call (f := 44) (args := #[.slice (some ⟨k, 0, none⟩) 32 32, vals 17, .agg (bytesA (hz 8))]) ?_ ((is_any _ _ (Sha.hash (hz 9)) ((hz 9 ++ Sha.hash (hz 9 ++ hz 8)) ++ [0]) (hz 8) rfl w1 (HK32.out.below hb) p31).mono fun e w' h => ⟨_, h.1, h.2, by rw [isB_long _ _ _ (by simp [hash_length, hz])]; rfl⟩)
    generalize a.eval = ρ at *
    clear hs' hd'
    go_simp
  · intro vals a w1 hb hs' hd'
    refine want (gd_some rfl (hd' 13 (by decide)).2) ?_
    have e33 : a.eval (.tmp 33) = _ := (hd' 19 (by decide)).1.trans (hd' 19 (by decide)).2
    refine head_val (.bool true) ?_ (Below.refl _ _) rfl
    generalize a.eval = ρ at *
    clear hs' hd'
    go_simp
  · intro vals a w1 hb hs' hd'
    refine want rfl ?_
    have e27 : a.eval (.tmp 27) = _ := (hd' 13 (by decide)).1.trans (hd' 13 (by decide)).2
    have e34 : a.eval (.tmp 34) = _ := (hd' 20 (by decide)).1.trans (hd' 20 (by decide)).2
    have ec : a.eval (.const (.bool false)) = .bool false := rfl
    refine head_val (.bool true) ?_ (Below.refl _ _) rfl
    generalize a.eval = ρ at *
    clear hs' hd'
    go_simp
  · intro vals a w1 hb hs' hd'
    refine want rfl ?_
    have e35 : a.eval (.tmp 35) = _ := (hd' 21 (by decide)).1.trans (hd' 21 (by decide)).2
    refine head_val (.bool true) ?_ (Below.refl _ _) rfl
    generalize a.eval = ρ at *
    clear hs' hd'
    go_simp
  · intro vals a w1 hb hs' hd'
    refine want (gd_some rfl (hd' 22 (by decide)).2) ?_
    have ec : a.eval (.const (.int .u8 8)) = .int .u8 8 := rfl
    refine head_val (.agg (bytesA (hz 8))) ?_ (Below.refl _ _) rfl
    generalize a.eval = ρ at *
    clear hs' hd'
    go_simp
    rfl
  · intro vals a w1 hb hs' hd'
    refine want (gd_some rfl (hd' 22 (by decide)).2) ?_
    have e37 : a.eval (.tmp 37) = _ := (hd' 23 (by decide)).1.trans (hd' 23 (by decide)).2
    have ec : a.eval (.const (.slice none 0 0)) = .slice none 0 0 := rfl
    have ef : a.eval (.func 44) = .func (.func 44) #[] #[] := rfl
    refine head_call (f := 44) (args := #[.slice none 0 0, .slice none 0 0, .agg (bytesA (hz 8))]) ?_ ((is_any _ _ [] [] (hz 8) rfl w1 (.inl ⟨rfl, rfl⟩) (.inl ⟨rfl, rfl⟩)).mono fun e w' h => ⟨_, h.1, h.2, by rw [isB_short _ _ _ (by simp)]; rfl⟩)
    generalize a.eval = ρ at *
    clear hs' hd'
    go_simp
  · intro vals a w1 hb hs' hd'
    refine want (gd_some rfl (hd' 22 (by decide)).2) ?_
    have e38 : a.eval (.tmp 38) = _ := (hd' 24 (by decide)).1.trans (hd' 24 (by decide)).2
    refine head_val (.bool true) ?_ (Below.refl _ _) rfl
    generalize a.eval = ρ at *
    clear hs' hd'
    go_simp
  · intro vals a w1 hb hs' hd'
    refine want rfl ?_
    have e36 : a.eval (.tmp 36) = _ := (hd' 22 (by decide)).1.trans (hd' 22 (by decide)).2
    have e39 : a.eval (.tmp 39) = _ := (hd' 25 (by decide)).1.trans (hd' 25 (by decide)).2
    have ec : a.eval (.const (.bool false)) = .bool false := rfl
    refine head_val (.bool true) ?_ (Below.refl _ _) rfl
    generalize a.eval = ρ at *
    clear hs' hd'
    go_simp
  · intro vals a w1 hb hs' hd'
    refine want rfl ?_
    have e40 : a.eval (.tmp 40) = _ := (hd' 26 (by decide)).1.trans (hd' 26 (by decide)).2
    refine head_val (.bool true) ?_ (Below.refl _ _) rfl
    generalize a.eval = ρ at *
    clear hs' hd'
    go_simp
  · intro vals a w1 hb hs' hd'
    refine want (gd_some rfl (hd' 27 (by decide)).2) ?_
    have e1 : a.eval (.tmp 1) = Value.pointer (some ⟨k, 0, none⟩) := hs' 1 (by decide)
    refine head_val (.slice (some ⟨k, 0, none⟩) 32 32) ?_ (Below.refl _ _) rfl
    generalize a.eval = ρ at *
    clear hs' hd'
    go_simp
  · intro vals a w1 hb hs' hd'
    refine want (gd_some rfl (hd' 27 (by decide)).2) ?_
    have ec : a.eval (.const (.int .u8 0)) = .int .u8 0 := rfl
    refine head_val (.slice (some ⟨w1.heap.size, 0, none⟩) 1 1) (w' := w1.alloc (.cells #[V8 0] 5)) ?_ ((Below.refl _ _).alloc (Nat.le_refl _) _) ⟨_, rfl, cell_of_row _ _ _ _ _ _ (heap_alloc_new _ _), by simp⟩
    generalize a.eval = ρ at *
    clear hs' hd'
    go_simp
    rfl
  · intro vals a w1 hb hs' hd'
    refine want (gd_some rfl (hd' 27 (by decide)).2) ?_
    have e42 : a.eval (.tmp 42) = _ := (hd' 28 (by decide)).1.trans (hd' 28 (by decide)).2
    obtain ⟨b1, eb, ec1, hlt1⟩ := (hd' 29 (by decide)).2
    have e43 : a.eval (.tmp 43) = .slice (some ⟨b1, 0, none⟩) 1 1 := (hd' 29 (by decide)).1.trans eb
    obtain ⟨v', w', hrun, r1, r2⟩ := run_append_arg_grows (P := Try.prog) w1 25 25 5 i0 (.int .u8 0) 1 1 Try.underlying25 HI.out HI0.out HI1.out HI2.out rfl (by decide) ⟨k, 0, none⟩ 32 32 ((Sha.hash (hz 9)).map V8) (by simp [hash_length, hz]) (cells_at (row_range ((hb.block _ (Array.getElem?_eq_some_iff.1 HRK.out).1).trans HRK.out))) ⟨b1, 0, none⟩ 1 1 [V8 0] rfl (cells_at (fun j u hu => by
      match j, hu with
      | 0, hu => cases hu; exact ec1
      | j + 1, hu => simp at hu)) (by omega) (by unfold maxLen; omega) (by omega)
    have hown : w'.ownsRow w1.heap.size 5 1 v' ((Sha.hash (hz 9)) ++ [0]).length (((Sha.hash (hz 9)) ++ [0]).map V8) := by
      have hl : ((Sha.hash (hz 9)) ++ [0]).length = 32 + 1 := by simp [hash_length, hz]
      rw [hl, List.map_append]; exact r1
    refine head_val v' (w' := w') ?_ (below_of_grown r2 (by simp)) (BytesAt.of_owns hown)
    simp only [execOp, resolve, invoke, builtin, e42, e43, Sem.run_bind, Sem.run_pure, Result.andThen_ok, List.map_toArray, List.map_cons, List.map_nil, hrun]
  · intro vals a w1 hb hs' hd'
    refine want (gd_some rfl (hd' 27 (by decide)).2) ?_
    have e2 : a.eval (.tmp 2) = Value.slice (some ⟨g, 0, none⟩) 64 64 := hs' 2 (by decide)
    refine head_val (.slice (some ⟨g, 0, none⟩) 64 64) ?_ (Below.refl _ _) rfl
    generalize a.eval = ρ at *
    clear hs' hd'
    go_simp
  · intro vals a w1 hb hs' hd'
    refine want (gd_some rfl (hd' 27 (by decide)).2) ?_
    have ec : a.eval (.const (.int .u8 8)) = .int .u8 8 := rfl
    refine head_val (.agg (bytesA (hz 8))) ?_ (Below.refl _ _) rfl
    generalize a.eval = ρ at *
    clear hs' hd'
    go_simp
    rfl
  · intro vals a w1 hb hs' hd'
    refine want (gd_some rfl (hd' 27 (by decide)).2) ?_
    have e44 : a.eval (.tmp 44) = vals 30 := (hd' 30 (by decide)).1
    have p44 := (hd' 30 (by decide)).2
    simp only [nam5] at p44
    have e45 : a.eval (.tmp 45) = _ := (hd' 31 (by decide)).1.trans (hd' 31 (by decide)).2
    have e46 : a.eval (.tmp 46) = _ := (hd' 32 (by decide)).1.trans (hd' 32 (by decide)).2
    have ef : a.eval (.func 44) = .func (.func 44) #[] #[] := rfl
    refine head_call (f := 44) (args := #[vals 30, .slice (some ⟨g, 0, none⟩) 64 64, .agg (bytesA (hz 8))]) ?_ ((is_any _ _ ((Sha.hash (hz 9)) ++ [0]) (hz 9 ++ Sha.hash (hz 9 ++ hz 8)) (hz 8) rfl w1 p44 (HSG.out.below hb)).mono fun e w' h => ⟨_, h.1, h.2, by rw [isB_short _ _ _ (by simp [hash_length])]; rfl⟩)
    generalize a.eval = ρ at *
    clear hs' hd'
    go_simp
  · intro vals a w1 hb hs' hd'
    refine want (gd_some rfl (hd' 27 (by decide)).2) ?_
    have e47 : a.eval (.tmp 47) = _ := (hd' 33 (by decide)).1.trans (hd' 33 (by decide)).2
    refine head_val (.bool true) ?_ (Below.refl _ _) rfl
    generalize a.eval = ρ at *
    clear hs' hd'
    go_simp
  · intro vals a w1 hb hs' hd'
    refine want rfl ?_
    have e41 : a.eval (.tmp 41) = _ := (hd' 27 (by decide)).1.trans (hd' 27 (by decide)).2
    have e48 : a.eval (.tmp 48) = _ := (hd' 34 (by decide)).1.trans (hd' 34 (by decide)).2
    have ec : a.eval (.const (.bool false)) = .bool false := rfl
    refine head_val (.bool true) ?_ (Below.refl _ _) rfl
    generalize a.eval = ρ at *
    clear hs' hd'
    go_simp
  · intro vals a w1 hb hs' hd'
    refine want rfl ?_
    have e49 : a.eval (.tmp 49) = _ := (hd' 35 (by decide)).1.trans (hd' 35 (by decide)).2
    refine head_val (.bool true) ?_ (Below.refl _ _) rfl
    generalize a.eval = ρ at *
    clear hs' hd'
    go_simp
  intro vals W4 hb4 hall
  have h36 : vals 36 = .bool true := hall 36 (by omega)
  clear hall
  simp only [List.take_succ_cons, List.take_zero, List.drop_succ_cons, List.drop_zero, G.putHeads, List.zipIdx_cons, List.zipIdx_nil, List.foldl_cons, List.foldl_nil, Act.put, List.setIfInBounds_toArray, List.set_cons_zero, List.set_cons_succ, Nat.zero_add, Nat.reduceAdd, h36]
  have HRK4 := Lib.hid (block_below hb4 HRK.out)
  have HRG4 := Lib.hid (block_below hb4 HRG.out)
  have HB4 := Lib.hid (HB3.out.trans (hb4.mono HB3.out.size))
  clear hb4 HK32 HSG HK31 HS63 HRK HRG
  refine wpList_nil ?_
  obtain ⟨W5, hW5⟩ : ∃ W5, W4.alloc (.cells (bytesA (hz 9)) 28) = W5 := ⟨_, rfl⟩
  obtain ⟨W6, hW6⟩ : ∃ W6, W5.alloc (.cells #[] 5) = W6 := ⟨_, rfl⟩
  have hb5 : Below W4.heap.size W4 W5 := by rw [← hW5]; exact (Below.refl _ _).alloc (Nat.le_refl _) _
  have hx4 : W5.heap[W4.heap.size]? = some (.cells (bytesA (hz 9)) 28 (0, 0)) := by rw [← hW5]; exact heap_alloc_new _ _
  have hb6 : Below W5.heap.size W5 W6 := by rw [← hW6]; exact (Below.refl _ _).alloc (Nat.le_refl _) _
  have hown6 : W6.ownsRow W5.heap.size 5 1 (.slice (some ⟨W5.heap.size, 0, none⟩) 0 0) 0 [] := ⟨rfl, .inr ⟨W5.heap.size, 0, #[], rfl, Nat.le_refl _, by rw [← hW6]; exact heap_alloc_new _ _, Nat.le_refl _, by decide, rfl, rfl⟩⟩
  have HW5 := Lib.hid hW5
  have HW6 := Lib.hid hW6
  have HB6 := Lib.hid (hb5.trans (hb6.mono hb5.size))
  have HX46 := Lib.hid (block_below hb6 hx4)
  have HOWN6 := Lib.hid hown6
  have HBS6 := Lib.hid hb6.size
  clear hW5 hW6 hb5 hx4 hb6 hown6
  go_wp2_with (first | ((with_reducible refine wpList_store_row ?_ 28 (.tmp 4) (.tmp 50) ?_ W4.heap.size (bytesA (hz 9)) ?_ ?_ 28 _ (heap_alloc_new W4 _) ?_ ?_ ?_ ?_);  (next => rfl); (next => rfl); (next => rfl); (next => rfl); (next => kernel_rfl); (next => rfl); (next => exact all_bytes _); rw [World.setRow_alloc_new, HW5.out]) | (at_builtin; (try rw [HW6.out]); refine wpList_append_own _ rfl (.tmp 51) (.tmp 52) 25 rfl W5.heap.size 5 i0 (.int .u8 0) 1 1 Try.underlying25 HI.out HI0.out HI1.out HI2.out rfl (by decide) (.slice (some ⟨W5.heap.size, 0, none⟩) 0 0) 0 [] rfl HOWN6.out ⟨W4.heap.size, 0, none⟩ 32 32 ((hz 9).map V8) rfl rfl (cells_at (row_range HX46.out)) (all_v8 _) (by unfold maxLen; omega) (by omega) HBS6.out ?_; intro v7 W7 hown7 hgr7 _; have HOWN7 := Lib.hid hown7; have HGR7 := Lib.hid hgr7; clear hown7 hgr7) | (at_builtin; refine wpList_append_own _ rfl (.tmp 53) (.tmp 54) 25 rfl W5.heap.size 5 i0 (.int .u8 0) 1 1 Try.underlying25 HI.out HI0.out HI1.out HI2.out rfl (by decide) v7 32 ((hz 9).map V8) rfl (HOWN7.out.alloc (.cells (bytesA (hz 8)) 5)) ⟨W7.heap.size, 0, none⟩ 32 32 ((hz 8).map V8) rfl rfl (cells_at (row_range (heap_alloc_new W7 (.cells (bytesA (hz 8)) 5)))) (all_v8 _) (by unfold maxLen; omega) (by omega) (Nat.le_trans HBS6.out (Nat.le_trans HGR7.out.size (by simp))) ?_; intro v9 W9 hown9 hgr9 _; have HOWN9 := Lib.hid hown9; have HGR9 := Lib.hid hgr9; clear hown9 hgr9))
  have hs45 : W4.heap.size ≤ W5.heap.size := by have := HX46.out; rw [← HW5.out]; simp
  have hb7 : Below W5.heap.size W6 W7 := (Below.refl _ _).grown HGR7.out HBS6.out (fun k hk => by cases hk; exact Nat.le_refl _)
  have hb8 : Below W5.heap.size W6 (W7.alloc (.cells (bytesA (hz 8)) 5)) := hb7.alloc (Nat.le_trans HBS6.out hb7.size) _
  have hb9 : Below W5.heap.size W6 W9 := hb8.grown HGR9.out (Nat.le_trans HBS6.out hb8.size) (fun k hk => (HOWN7.out.lt k hk).1)
  have hx4lt : W4.heap.size < W5.heap.size := by rw [← HW5.out]; simp
  have hx49 : W9.heap[W4.heap.size]? = some (.cells (bytesA (hz 9)) 28 (0, 0)) := (hb9.block _ hx4lt).trans HX46.out
  have hown : W9.ownsRow W5.heap.size 5 1 v9 (hz 9 ++ hz 8).length ((hz 9 ++ hz 8).map V8) := by rw [List.map_append]; exact HOWN9.out
  have hby9 := BytesAt.of_owns hown
  have HB9 : Hid (Below W4.heap.size W4 W9) := Lib.hid (HB6.out.trans (hb9.mono hs45))
  have HX49 := Lib.hid hx49
  obtain ⟨x4, hx4e⟩ : ∃ x, W4.heap.size = x := ⟨_, rfl⟩
  rw [hx4e] at HX49
  refine (of_any v9 (hz 9 ++ hz 8) W9 hby9 (by decide)).mono ?_
  rintro e W10 ⟨rfl, hb10⟩
  obtain ⟨W11, hW11⟩ : ∃ W11, W10.alloc (.cells (bytesA (Sha.hash (hz 9 ++ hz 8))) 28) = W11 := ⟨_, rfl⟩
  have hb11 : Below W10.heap.size W10 W11 := by rw [← hW11]; exact (Below.refl _ _).alloc (Nat.le_refl _) _
  have HX5r : Hid (W11.heap[W10.heap.size]? = some (.cells (bytesA (Sha.hash (hz 9 ++ hz 8))) 28 (0, 0))) := Lib.hid (by rw [← hW11]; exact heap_alloc_new _ _)
  have HX4r := Lib.hid (block_below hb11 (block_below hb10 HX49.out))
  have hb411 : Below W4.heap.size W4 W11 := HB9.out.trans ((hb10.mono HB9.out.size).trans (hb11.mono (Nat.le_trans HB9.out.size hb10.size)))
  have HRK8 := Lib.hid (block_below hb411 HRK4.out)
  have HRG8 := Lib.hid (block_below hb411 HRG4.out)
  have HB11 := Lib.hid (HB4.out.trans (hb411.mono HB4.out.size))
  have HW11 := Lib.hid hW11
  clear hs45 hb7 hb8 hb9 hx4lt hx49 hown hby9 hb10 hb11 hb411 hW11 HGR7 HGR9 HOWN7 HOWN9 HOWN6 HX46 HB6 HB9
  go_wp2_with ((with_reducible refine wpList_store_row ?_ 28 (.tmp 5) (.tmp 56) ?_ W10.heap.size (bytesA (Sha.hash (hz 9 ++ hz 8))) ?_ ?_ 28 _ (heap_alloc_new W10 _) ?_ ?_ ?_ ?_);  (next => rfl); (next => rfl); (next => rfl); (next => rfl); (next => rw [size_bytesA, hash_length]; kernel_rfl); (next => rw [size_bytesA, hash_length]; rfl); (next => exact all_bytes _); rw [World.setRow_alloc_new, HW11.out])
  try rw [hx4e]
  clear hx4e
  obtain ⟨x5, hx5⟩ : ∃ x, W10.heap.size = x := ⟨_, rfl⟩
  rw [hx5] at HX5r
  try rw [hx5]
  clear hx5
  have HX4 := Lib.hid (row32 HX4r.out (rfl : (hz 9).length = 32))
  have HX5 := Lib.hid (row32 HX5r.out (hash_length (hz 9 ++ hz 8)))
  have HSA : Hid (BytesAt W11 (.slice (some ⟨g, 0, none⟩) 32 64) (hz 9)) := Lib.hid (sub_at (row_range HRG8.out) (by rw [List.map_append]; exact List.take_left' rfl) rfl (by omega) (by unfold maxLen; omega) (Array.getElem?_eq_some_iff.1 HRG8.out).1)
  have HSB : Hid (BytesAt W11 (.slice (some ⟨g, 32, none⟩) 32 32) (Sha.hash (hz 9 ++ hz 8))) := Lib.hid (sub_at (l := (Sha.hash (hz 9 ++ hz 8)).map V8) (by
      have := rangeAt_drop (row_range HRG8.out) 32
      rw [List.map_append, List.drop_left' (by rw [List.length_map]; rfl)] at this
      simpa using this) (List.take_of_length_le (by simp [hash_length])) (hash_length _) (by omega) (by unfold maxLen; omega) (Array.getElem?_eq_some_iff.1 HRG8.out).1)
  refine G.wp_region_mono 29 (by kernel_rfl) (by kernel_rfl) (nam8 g x4 x5) (nam8_stable g x4 x5) ⟨?_, ?_, ?_, ?_, ?_, ?_, ?_, ?_, ?_, ?_, ?_, ?_, ?_, ?_, ?_, ?_, ?_, ?_, ?_, ?_, ?_, ?_, ?_, ?_, ?_, ?_, ?_, ?_, ?_, trivial⟩ ?_
  · intro vals a w1 hb hs' hd'
    refine want rfl ?_
    have ec : a.eval (.const (.bool true)) = .bool true := rfl
    refine head_val (.bool true) ?_ (Below.refl _ _) rfl
    generalize a.eval = ρ at *
    clear hs' hd'
    go_simp
  · intro vals a w1 hb hs' hd'
    refine want (gd_some rfl (hd' 0 (by decide)).2) ?_
    have ef : a.eval (.func 58) = .func (.func 58) #[] #[] := rfl
    refine head_call (f := 58) (args := #[]) ?_ ((alive_any w1).mono fun e w' h => ⟨_, h.1, h.2, rfl⟩)
    generalize a.eval = ρ at *
    clear hs' hd'
    go_simp
  · intro vals a w1 hb hs' hd'
    refine want rfl ?_
    have e57 : a.eval (.tmp 57) = _ := (hd' 0 (by decide)).1.trans (hd' 0 (by decide)).2
    have e58 : a.eval (.tmp 58) = _ := (hd' 1 (by decide)).1.trans (hd' 1 (by decide)).2
    have ec : a.eval (.const (.bool false)) = .bool false := rfl
    refine head_val (.bool true) ?_ (Below.refl _ _) rfl
    generalize a.eval = ρ at *
    clear hs' hd'
    go_simp
  · intro vals a w1 hb hs' hd'
    refine want rfl ?_
    have e59 : a.eval (.tmp 59) = _ := (hd' 2 (by decide)).1.trans (hd' 2 (by decide)).2
    refine head_val (.bool true) ?_ (Below.refl _ _) rfl
    generalize a.eval = ρ at *
    clear hs' hd'
    go_simp
  · intro vals a w1 hb hs' hd'
    refine want (gd_some rfl (hd' 3 (by decide)).2) ?_
    have e3 : a.eval (.tmp 3) = Value.bool true := hs' 3 (by decide)
    refine head_val (.bool true) ?_ (Below.refl _ _) rfl
    generalize a.eval = ρ at *
    clear hs' hd'
    go_simp
  · intro vals a w1 hb hs' hd'
    refine want rfl ?_
    have e60 : a.eval (.tmp 60) = _ := (hd' 3 (by decide)).1.trans (hd' 3 (by decide)).2
    have e61 : a.eval (.tmp 61) = _ := (hd' 4 (by decide)).1.trans (hd' 4 (by decide)).2
    have ec : a.eval (.const (.bool false)) = .bool false := rfl
    refine head_val (.bool true) ?_ (Below.refl _ _) rfl
    generalize a.eval = ρ at *
    clear hs' hd'
    go_simp
  · intro vals a w1 hb hs' hd'
    refine want rfl ?_
    have e62 : a.eval (.tmp 62) = _ := (hd' 5 (by decide)).1.trans (hd' 5 (by decide)).2
    refine head_val (.bool true) ?_ (Below.refl _ _) rfl
    generalize a.eval = ρ at *
    clear hs' hd'
    go_simp
  · intro vals a w1 hb hs' hd'
    refine want (gd_some rfl (hd' 6 (by decide)).2) ?_
    have e2 : a.eval (.tmp 2) = Value.slice (some ⟨g, 0, none⟩) 64 64 := hs' 2 (by decide)
    refine head_val (.slice (some ⟨g, 0, none⟩) 64 64) ?_ (Below.refl _ _) rfl
    generalize a.eval = ρ at *
    clear hs' hd'
    go_simp
  · intro vals a w1 hb hs' hd'
    refine want (gd_some rfl (hd' 6 (by decide)).2) ?_
    have e64 : a.eval (.tmp 64) = _ := (hd' 7 (by decide)).1.trans (hd' 7 (by decide)).2
    have ec : a.eval (.const (.int .i64 32)) = .int .i64 32 := rfl
    refine head_val (.slice (some ⟨g, 0, none⟩) 32 64) ?_ (Below.refl _ _) rfl
    generalize a.eval = ρ at *
    clear hs' hd'
    go_simp
  · intro vals a w1 hb hs' hd'
    refine want (gd_some rfl (hd' 6 (by decide)).2) ?_
    have e65 : a.eval (.tmp 65) = _ := (hd' 8 (by decide)).1.trans (hd' 8 (by decide)).2
    have hcv := conv_at (HSA.out.below hb)
    refine head_val (.string ⟨(hz 9).toArray⟩) ?_ (Below.refl _ _) rfl
    generalize a.eval = ρ at *
    clear hs' hd'
    simp only [execOp, e65, Sem.run_bind, hcv, Result.andThen_ok]
    rfl
  · intro vals a w1 hb hs' hd'
    refine want (gd_some rfl (hd' 6 (by decide)).2) ?_
    have e4 : a.eval (.tmp 4) = Value.pointer (some ⟨x4, 0, none⟩) := hs' 4 (by decide)
    refine head_val (.slice (some ⟨x4, 0, none⟩) 32 32) ?_ (Below.refl _ _) rfl
    generalize a.eval = ρ at *
    clear hs' hd'
    go_simp
  · intro vals a w1 hb hs' hd'
    refine want (gd_some rfl (hd' 6 (by decide)).2) ?_
    have e67 : a.eval (.tmp 67) = _ := (hd' 10 (by decide)).1.trans (hd' 10 (by decide)).2
    have hcv := conv_at (HX4.out.below hb)
    refine head_val (.string ⟨(hz 9).toArray⟩) ?_ (Below.refl _ _) rfl
    generalize a.eval = ρ at *
    clear hs' hd'
    simp only [execOp, e67, Sem.run_bind, hcv, Result.andThen_ok]
    rfl
  · intro vals a w1 hb hs' hd'
    refine want (gd_some rfl (hd' 6 (by decide)).2) ?_
    have e66 : a.eval (.tmp 66) = _ := (hd' 9 (by decide)).1.trans (hd' 9 (by decide)).2
    have e68 : a.eval (.tmp 68) = _ := (hd' 11 (by decide)).1.trans (hd' 11 (by decide)).2
    have eqq := eql9 (hz 9) (hz 9) w1
    rw [beq_self_eq_true] at eqq
    refine head_val (.bool true) ?_ (Below.refl _ _) rfl
    generalize a.eval = ρ at *
    clear hs' hd'
    simp only [execOp, e66, e68, Sem.run_bind, eg9, eqq, Result.andThen_ok]
    rfl
  · intro vals a w1 hb hs' hd'
    refine want rfl ?_
    have e63 : a.eval (.tmp 63) = _ := (hd' 6 (by decide)).1.trans (hd' 6 (by decide)).2
    have e69 : a.eval (.tmp 69) = _ := (hd' 12 (by decide)).1.trans (hd' 12 (by decide)).2
    have ec : a.eval (.const (.bool false)) = .bool false := rfl
    refine head_val (.bool true) ?_ (Below.refl _ _) rfl
    generalize a.eval = ρ at *
    clear hs' hd'
    go_simp
  · intro vals a w1 hb hs' hd'
    refine want rfl ?_
    have e70 : a.eval (.tmp 70) = _ := (hd' 13 (by decide)).1.trans (hd' 13 (by decide)).2
    refine head_val (.bool true) ?_ (Below.refl _ _) rfl
    generalize a.eval = ρ at *
    clear hs' hd'
    go_simp
  · intro vals a w1 hb hs' hd'
    refine want (gd_some rfl (hd' 14 (by decide)).2) ?_
    have e2 : a.eval (.tmp 2) = Value.slice (some ⟨g, 0, none⟩) 64 64 := hs' 2 (by decide)
    refine head_val (.slice (some ⟨g, 0, none⟩) 64 64) ?_ (Below.refl _ _) rfl
    generalize a.eval = ρ at *
    clear hs' hd'
    go_simp
  · intro vals a w1 hb hs' hd'
    refine want (gd_some rfl (hd' 14 (by decide)).2) ?_
    have e72 : a.eval (.tmp 72) = _ := (hd' 15 (by decide)).1.trans (hd' 15 (by decide)).2
    have ec : a.eval (.const (.int .i64 32)) = .int .i64 32 := rfl
    refine head_val (.slice (some ⟨g, 32, none⟩) 32 32) ?_ (Below.refl _ _) rfl
    generalize a.eval = ρ at *
    clear hs' hd'
    go_simp
  · intro vals a w1 hb hs' hd'
    refine want (gd_some rfl (hd' 14 (by decide)).2) ?_
    have e73 : a.eval (.tmp 73) = _ := (hd' 16 (by decide)).1.trans (hd' 16 (by decide)).2
    have hcv := conv_at (HSB.out.below hb)
    refine head_val (.string ⟨(Sha.hash (hz 9 ++ hz 8)).toArray⟩) ?_ (Below.refl _ _) rfl
    generalize a.eval = ρ at *
    clear hs' hd'
    simp only [execOp, e73, Sem.run_bind, hcv, Result.andThen_ok]
    rfl
  · intro vals a w1 hb hs' hd'
    refine want (gd_some rfl (hd' 14 (by decide)).2) ?_
    have e5 : a.eval (.tmp 5) = Value.pointer (some ⟨x5, 0, none⟩) := hs' 5 (by decide)
    refine head_val (.slice (some ⟨x5, 0, none⟩) 32 32) ?_ (Below.refl _ _) rfl
    generalize a.eval = ρ at *
    clear hs' hd'
    go_simp
  · intro vals a w1 hb hs' hd'
    refine want (gd_some rfl (hd' 14 (by decide)).2) ?_
    have e75 : a.eval (.tmp 75) = _ := (hd' 18 (by decide)).1.trans (hd' 18 (by decide)).2
    have hcv := conv_at (HX5.out.below hb)
    refine head_val (.string ⟨(Sha.hash (hz 9 ++ hz 8)).toArray⟩) ?_ (Below.refl _ _) rfl
    generalize a.eval = ρ at *
    clear hs' hd'
    simp only [execOp, e75, Sem.run_bind, hcv, Result.andThen_ok]
    rfl
  · intro vals a w1 hb hs' hd'
    refine want (gd_some rfl (hd' 14 (by decide)).2) ?_
    have e74 : a.eval (.tmp 74) = _ := (hd' 17 (by decide)).1.trans (hd' 17 (by decide)).2
    have e76 : a.eval (.tmp 76) = _ := (hd' 19 (by decide)).1.trans (hd' 19 (by decide)).2
    have eqq := eql9 (Sha.hash (hz 9 ++ hz 8)) (Sha.hash (hz 9 ++ hz 8)) w1
    rw [beq_self_eq_true] at eqq
    refine head_val (.bool true) ?_ (Below.refl _ _) rfl
    generalize a.eval = ρ at *
    clear hs' hd'
    simp only [execOp, e74, e76, Sem.run_bind, eg9, eqq, Result.andThen_ok]
    rfl
  · intro vals a w1 hb hs' hd'
    refine want rfl ?_
    have e71 : a.eval (.tmp 71) = _ := (hd' 14 (by decide)).1.trans (hd' 14 (by decide)).2
    have e77 : a.eval (.tmp 77) = _ := (hd' 20 (by decide)).1.trans (hd' 20 (by decide)).2
    have ec : a.eval (.const (.bool false)) = .bool false := rfl
    refine head_val (.bool true) ?_ (Below.refl _ _) rfl
    generalize a.eval = ρ at *
    clear hs' hd'
    go_simp
  · intro vals a w1 hb hs' hd'
    refine want rfl ?_
    have e78 : a.eval (.tmp 78) = _ := (hd' 21 (by decide)).1.trans (hd' 21 (by decide)).2
    refine head_val (.bool true) ?_ (Below.refl _ _) rfl
    generalize a.eval = ρ at *
    clear hs' hd'
    go_simp
  · intro vals a w1 hb hs' hd'
    refine want (gd_some rfl (hd' 22 (by decide)).2) ?_
    have e1 : a.eval (.tmp 1) = Value.pointer (some ⟨k, 0, none⟩) := hs' 1 (by decide)
    have hl := run_loadVar_mid (P := Try.prog) w1 (k) (0) 28 ((Sha.hash (hz 9)).map V8) _ (row_range ((hb.block _ (Array.getElem?_eq_some_iff.1 HRK8.out).1).trans HRK8.out)) Try.underlying28 rfl HIK.out
    refine head_val (.agg (bytesA (Sha.hash (hz 9)))) ?_ (Below.refl _ _) rfl
    generalize a.eval = ρ at *
    clear hs' hd'
    simp only [execOp, e1, Instr.loadAt, Instr.sureAddr, Sem.run_bind, Sem.run_pure, Result.andThen_ok, hl]
    rfl
  · intro vals a w1 hb hs' hd'
    refine want (gd_some rfl (hd' 22 (by decide)).2) ?_
    have e4 : a.eval (.tmp 4) = Value.pointer (some ⟨x4, 0, none⟩) := hs' 4 (by decide)
    refine head_val (.slice (some ⟨x4, 0, none⟩) 32 32) ?_ (Below.refl _ _) rfl
    generalize a.eval = ρ at *
    clear hs' hd'
    go_simp
  · intro vals a w1 hb hs' hd'
    refine want (gd_some rfl (hd' 22 (by decide)).2) ?_
    have e81 : a.eval (.tmp 81) = _ := (hd' 24 (by decide)).1.trans (hd' 24 (by decide)).2
    have ef : a.eval (.func 27) = .func (.func 27) #[] #[] := rfl
    refine head_call (f := 27) (args := #[.slice (some ⟨x4, 0, none⟩) 32 32]) ?_ ((of_any _ (hz 9) w1 (HX4.out.below hb) (by decide)).mono fun e w' h => ⟨_, h.1, h.2, rfl⟩)
    generalize a.eval = ρ at *
    clear hs' hd'
    go_simp
  · intro vals a w1 hb hs' hd'
    refine want (gd_some rfl (hd' 22 (by decide)).2) ?_
    have e80 : a.eval (.tmp 80) = _ := (hd' 23 (by decide)).1.trans (hd' 23 (by decide)).2
    have e82 : a.eval (.tmp 82) = _ := (hd' 25 (by decide)).1.trans (hd' 25 (by decide)).2
    have eqq := eql28 (Sha.hash (hz 9)) (Sha.hash (hz 9)) w1 (hash_length _) (hash_length _)
    rw [beq_self_eq_true] at eqq
    have eqq' : (binOp .eql 28 (.agg (bytesA (Sha.hash (hz 9)))) (.agg (bytesA (Sha.hash (hz 9))))).run Try.prog w1 = .ok (.bool true) w1 := eqq
    refine head_val (.bool true) ?_ (Below.refl _ _) rfl
    generalize a.eval = ρ at *
    clear hs' hd'
    simp only [execOp, e80, e82, Sem.run_bind, eg28, eqq', Result.andThen_ok]
    rfl
  · intro vals a w1 hb hs' hd'
    refine want rfl ?_
    have e79 : a.eval (.tmp 79) = _ := (hd' 22 (by decide)).1.trans (hd' 22 (by decide)).2
    have e83 : a.eval (.tmp 83) = _ := (hd' 26 (by decide)).1.trans (hd' 26 (by decide)).2
    have ec : a.eval (.const (.bool false)) = .bool false := rfl
    refine head_val (.bool true) ?_ (Below.refl _ _) rfl
    generalize a.eval = ρ at *
    clear hs' hd'
    go_simp
  · intro vals a w1 hb hs' hd'
    refine want rfl ?_
    have e84 : a.eval (.tmp 84) = _ := (hd' 27 (by decide)).1.trans (hd' 27 (by decide)).2
    refine head_val (.bool true) ?_ (Below.refl _ _) rfl
    generalize a.eval = ρ at *
    clear hs' hd'
    go_simp
  intro vals W12 hb12 hall
  have h28 : vals 28 = .bool true := hall 28 (by omega)
  have HB12 := Lib.hid (HB11.out.trans (hb12.mono HB11.out.size))
  clear hall hb12
  simp only [List.take_succ_cons, List.take_zero, List.drop_succ_cons, List.drop_zero, G.putHeads, List.zipIdx_cons, List.zipIdx_nil, List.foldl_cons, List.foldl_nil, Act.put, List.setIfInBounds_toArray, List.set_cons_zero, List.set_cons_succ, Nat.zero_add, Nat.reduceAdd, h28]
  refine wpList_nil ?_
  go_wp2_with fail
  go_ret
  exact ⟨rfl, HB12.out⟩
end Go.Proofs.Ytdecbimklomdjaa
