/- A pool's Take. -/
import Derived.Test.YtdecbimklomdjaaAt
import Derived.Laws.ResultCell
namespace Go.Proofs.Ytdecbimklomdjaa
open Go Go.RowKit Go.Shelf
set_option maxRecDepth 100000 in
theorem field139_0 : ∀ (x prev : List UInt8) (n : Nat), x.length = 32 → prev.length = 32 → ∀ w, (Instr.field 139 (.agg (oneL x prev n).toArray) 0).run Try.prog w = .ok (.agg (bytesA x)) w
  | [d0, d1, d2, d3, d4, d5, d6, d7, d8, d9, d10, d11, d12, d13, d14, d15, d16, d17, d18, d19, d20, d21, d22, d23, d24, d25, d26, d27, d28, d29, d30, d31], [c0, c1, c2, c3, c4, c5, c6, c7, c8, c9, c10, c11, c12, c13, c14, c15, c16, c17, c18, c19, c20, c21, c22, c23, c24, c25, c26, c27, c28, c29, c30, c31], n, _, _, w => by kernel_rfl
set_option maxRecDepth 100000 in
theorem field139_1 : ∀ (x prev : List UInt8) (n : Nat), x.length = 32 → prev.length = 32 → ∀ w, (Instr.field 139 (.agg (oneL x prev n).toArray) 1).run Try.prog w = .ok (.agg (blkL prev n).toArray) w
  | [d0, d1, d2, d3, d4, d5, d6, d7, d8, d9, d10, d11, d12, d13, d14, d15, d16, d17, d18, d19, d20, d21, d22, d23, d24, d25, d26, d27, d28, d29, d30, d31], [c0, c1, c2, c3, c4, c5, c6, c7, c8, c9, c10, c11, c12, c13, c14, c15, c16, c17, c18, c19, c20, c21, c22, c23, c24, c25, c26, c27, c28, c29, c30, c31], n, _, _, w => by kernel_rfl
theorem field_run {P : Program} {o : Oper} {ρ : Operand → Value} {w : World} {ty : TypeId} {x : Operand} {i : Nat} {u v : Value} (ho : o.op = .field ty x i) (hx : ρ x = u) (h : (Instr.field ty u i).run P w = .ok v w) : (execOp ρ o).run P w = .ok (.value v) w := by
  unfold execOp
  simp only [ho, hx, Sem.run_bind, h, Sem.run_pure, Result.andThen_ok]
theorem PoolAt.off {w : World} {p c : Nat} {v : Value} {most : Nat} {l : List (List UInt8 × Nat)} (h : PoolAt w p c v most l) {k : Nat} {cs : Array Value} {t : TypeId} {fr : Nat × Nat} (hk : w.heap[k]? = some (.cells cs t fr)) (ht : t ≠ 139) : v.ownBlock ≠ some k := by
  intro e
  rcases h.own.2 with ⟨rfl, _⟩ | ⟨g, cap, cur, rfl, _, hg, _⟩
  · cases e
  · have : g = k := Option.some.inj e
    subst this
    rw [hg] at hk
    cases hk
    exact ht rfl
theorem PoolAt.turn {w w' : World} {p c : Nat} {v : Value} {most : Nat} {l : List (List UInt8 × Nat)} (h : PoolAt w p c v most l) (hp : w'.heap[p]? = w.heap[p]?) (hc : w'.heap[c]? = w.heap[c]?) (hv : ∀ k, v.ownBlock = some k → w'.heap[k]? = w.heap[k]?) : PoolAt w' p c v most l := by
  obtain ⟨s, r, hch⟩ := h.ch
  exact ⟨hp.trans h.row, ⟨s, r, hc.trans hch⟩, own_of_block h.own hv (Nat.le_refl _), h.offp, h.offc, h.lens, h.fits, h.most⟩
theorem PoolAt.setRow {w : World} {p c : Nat} {v : Value} {most : Nat} {l : List (List UInt8 × Nat)} (h : PoolAt w p c v most l) {k : Nat} {cs : Array Value} {t : TypeId} {fr : Nat × Nat} (hk : w.heap[k]? = some (.cells cs t fr)) (ht : t ≠ 139) (hp : k ≠ p) (cs' : Array Value) : PoolAt (w.setRow k cs') p c v most l := by
  have hkc : k ≠ c := by
    rintro rfl
    obtain ⟨s, r, hch⟩ := h.ch
    rw [hk] at hch
    cases hch
  exact h.turn (setRow_other _ _ _ _ (Ne.symm hp)) (setRow_other _ _ _ _ (Ne.symm hkc)) (fun j hj => setRow_other _ _ _ _ (fun e => h.off hk ht (by rw [← e]; exact hj)))
theorem Moved.setRow {p c : Nat} {v v' : Value} {w w' : World} (h : Moved p c v w v' w') {k : Nat} (hk : w.heap.size ≤ k) (cs : Array Value) : Moved p c v w v' (w'.setRow k cs) :=
  ⟨by rw [setRow_size]; exact h.size, fun i h1 h2 h3 h4 => (setRow_other _ _ _ _ (by omega)).trans (h.block i h1 h2 h3 h4), h.row, h.kept⟩
theorem Moved.below {p c : Nat} {v v' : Value} {w w' w'' : World} (h : Moved p c v w v' w') (hb : Below w'.heap.size w' w'') : Moved p c v w v' w'' := h.trans (.of_below hb)
theorem Moved.at {p c : Nat} {v v' : Value} {w w' : World} (h : Moved p c v w v' w') {k : Nat} {o : Obj} (hk : w.heap[k]? = some o) (h1 : k ≠ p) (h2 : k ≠ c) (h3 : v.ownBlock ≠ some k) : w'.heap[k]? = some o :=
  (h.block k (Array.getElem?_eq_some_iff.1 hk).1 h1 h2 h3).trans hk
theorem Moved.atPool {p c most : Nat} {l : List (List UInt8 × Nat)} {v v' : Value} {w w' : World} (h : Moved p c v w v' w') (hp : PoolAt w p c v most l) {k : Nat} {cs : Array Value} {t : TypeId} {fr : Nat × Nat} (hk : w.heap[k]? = some (.cells cs t fr)) (ht : t ≠ 139) (h1 : k ≠ p) : w'.heap[k]? = some (.cells cs t fr) :=
  h.at hk h1 (by rintro rfl; obtain ⟨s, r, hch⟩ := hp.ch; rw [hk] at hch; cases hch) (hp.off hk ht)
theorem lss_run {o : Oper} {ρ : Operand → Value} {w : World} {x : Operand} {z : Int} (ho : o.op = .binOp .lss 3 x (.const (.int .i64 0)) 3) (hx : ρ x = .int .i64 z) (hc : ρ (.const (.int .i64 0)) = .int .i64 0 := by rfl) : (execOp ρ o).run Try.prog w = .ok (.value (.bool (decide (z < 0)))) w := by
  simp only [execOp, ho, hx, hc]
  rfl
theorem results_cell_tmp2 {fn : Func} {p u : Tmp} {ty : TypeId} {P : Program} (h : fn.results = #[.cell p ty, .tmp u]) (tmps : Array Value) (w : World) {A : Addr} {v : Value} (hp : tmps.getD p undef = .pointer (some A)) (hl : (loadVar ty A).run P w = .ok v w) :
    (results fn tmps).run P w = .ok (.tuple #[v, tmps.getD u undef]) w := by
  rw [results_cell_tmp h, hp]
  simp [asAddr, hl, Result.andThen]
set_option maxRecDepth 100000 in
set_option maxHeartbeats 1000000 in
theorem take_none (u : Value) (x : List UInt8) (w : World) (h : ∀ W, Below w.heap.size w W → Calls Try.prog 93 #[u] W fun e w' => e = .returned (.bool true) ∧ W = w') :
    Calls Try.prog 54 #[u, .agg (bytesA x)] w fun e w' => e = .returned (.tuple #[.agg (blkL (Sha.zeros 32) 0).toArray, .int .i64 1]) ∧ Below w.heap.size w w' := by
  obtain ⟨W1, hW1, hb1, hn1, hn2, hsz⟩ := two_new w (.cells (bytesA x) 28) (.cells (blkL (Sha.zeros 32) 0).toArray 60)
  obtain ⟨B, hB⟩ : ∃ B, B = w.heap.size := ⟨_, rfl⟩
  rw [← hB] at hn1 hn2
  have HB1 := Lib.hid hb1
  have HN2 := Lib.hid hn2
  have HW1 := Lib.hid hW1
  have HBE := Lib.hid hB
  have H := Lib.hid h
  clear hb1 hn1 hn2 hW1 h hsz hB
  go_enter Try.func54, Try.ntmps54
  go_upto_region 1 with (fail)
  change Code.wp Try.prog _ _ _ ((w.alloc (.cells (bytesA x) 28)).alloc (.cells (blkL (Sha.zeros 32) 0).toArray 60))
  rw [HW1.out, ← HBE.out]
  go_upto_region 2 with (go_at_call 93; refine (H.out _ HB1.out).mono ?_; rintro e w' ⟨rfl, rfl⟩)
  refine wp_region_lit ?_
  refine wpList_one (v := .agg (blkL (Sha.zeros 32) 0).toArray) (w' := W1) rfl (by kernel_rfl) ?_
  try (conv => lhs; change (Act.mk #[_,_,_,_,_,_,_,_,_,_,_,_,_,_,_,_,_,_,_,_,_] _))
  refine wpList_put rfl 60 (.tmp 4) (.tmp 9) rfl (A := ⟨B + 1, 0, none⟩) rfl rfl (blk_store60 HN2.out (by rw [List.size_toArray, blkL_length _ _ (by rfl)]) (by rfl)) ?_
  try (conv => lhs; change (Act.mk #[_,_,_,_,_,_,_,_,_,_,_,_,_,_,_,_,_,_,_,_,_] _))
  have HN3 := Lib.hid (setRow_heap W1 (B + 1) _ (blkL (Sha.zeros 32) 0).toArray _ _ HN2.out)
  have HB3 := Lib.hid (below_setRow HB1.out (show w.heap.size ≤ B + 1 by have := HBE.out; omega) (blkL (Sha.zeros 32) 0).toArray)
  go_wp2_with fail
  exact bodyPost_ret (results_cell_tmp2 rfl _ _ rfl (blk_load60 HN3.out (by rfl))) rfl ⟨rfl, HB3.out⟩
set_option maxRecDepth 100000 in
set_option maxHeartbeats 1000000 in
theorem take_miss (p c : Nat) (v : Value) (most : Nat) (l : List (List UInt8 × Nat)) (x : List UInt8) (hx : x.length = 32) (hat : atL x l < 0) (w : World) (hp : PoolAt w p c v most l) :
    Calls Try.prog 54 #[.pointer (some ⟨p, 0, none⟩), .agg (bytesA x)] w fun e w' => e = .returned (.tuple #[.agg (blkL (Sha.zeros 32) 0).toArray, .int .i64 260]) ∧ Below w.heap.size w w' := by
  obtain ⟨W1, hW1, hb1, hn1, hn2, hsz⟩ := two_new w (.cells (bytesA x) 28) (.cells (blkL (Sha.zeros 32) 0).toArray 60)
  obtain ⟨B, hB⟩ : ∃ B, B = w.heap.size := ⟨_, rfl⟩
  rw [← hB] at hn1 hn2
  have HB1 := Lib.hid hb1
  have HN1 := Lib.hid hn1
  have HN2 := Lib.hid hn2
  have HW1 := Lib.hid hW1
  have HBE := Lib.hid hB
  have HP1 := Lib.hid (hp.below hb1)
  have HX := Lib.hid hx
  have HPW : Hid (p < w.heap.size) := Lib.hid (Array.getElem?_eq_some_iff.1 hp.row).1
  clear hb1 hn1 hn2 hW1 hsz hB hp hx
  go_enter Try.func54, Try.ntmps54
  go_upto_region 1 with (fail)
  change Code.wp Try.prog _ _ _ ((w.alloc (.cells (bytesA x) 28)).alloc (.cells (blkL (Sha.zeros 32) 0).toArray 60))
  rw [HW1.out, ← HBE.out]
  go_upto_region 3 with (go_at_call 93; refine (none_live W1 p c v most l HP1.out).mono ?_; rintro e w' ⟨rfl, rfl⟩)
  refine wp_region_lit ?_
  refine wpList_one (v := .pointer (some ⟨p, 0, none⟩)) (w' := W1) rfl (by kernel_rfl) ?_
  try (conv => lhs; change (Act.mk #[_,_,_,_,_,_,_,_,_,_,_,_,_,_,_,_,_,_,_,_,_] _))
  refine wpList_get rfl 28 (.tmp 3) rfl (A := ⟨B, 0, none⟩) rfl (load28 HN1.out HX.out) ?_
  try (conv => lhs; change (Act.mk #[_,_,_,_,_,_,_,_,_,_,_,_,_,_,_,_,_,_,_,_,_] _))
  refine wpList_call rfl (f := 96) (args := #[.pointer (some ⟨p, 0, none⟩), .agg (bytesA x)]) (by kernel_rfl) ((at_any p c v most l x HX.out W1 HP1.out).mono ?_)
  rintro e W2 ⟨rfl, hb2⟩
  refine ⟨_, rfl, ?_⟩
  try (conv => lhs; change (Act.mk #[_,_,_,_,_,_,_,_,_,_,_,_,_,_,_,_,_,_,_,_,_] _))
  have HN1 := Lib.hid (block_below' hb2 HN1.out)
  have HN2 := Lib.hid (block_below' hb2 HN2.out)
  have HB2 := Lib.hid (HB1.out.trans (hb2.mono HB1.out.size))
  have HP2 := Lib.hid (HP1.out.below hb2)
  clear hb2
  go_upto_region 5 with (fail)
  refine wp_region_lit ?_
  refine wpList_one (v := .agg (blkL (Sha.zeros 32) 0).toArray) (w' := W2) rfl (by kernel_rfl) ?_
  try (conv => lhs; change (Act.mk #[_,_,_,_,_,_,_,_,_,_,_,_,_,_,_,_,_,_,_,_,_] _))
  refine wpList_put rfl 60 (.tmp 4) (.tmp 15) rfl (A := ⟨B + 1, 0, none⟩) rfl rfl (blk_store60 HN2.out (by rw [List.size_toArray, blkL_length _ _ (by rfl)]) (by rfl)) ?_
  try (conv => lhs; change (Act.mk #[_,_,_,_,_,_,_,_,_,_,_,_,_,_,_,_,_,_,_,_,_] _))
  have HN3 := Lib.hid (setRow_heap W2 (B + 1) _ (blkL (Sha.zeros 32) 0).toArray _ _ HN2.out)
  have HB3 := Lib.hid (below_setRow HB2.out (show w.heap.size ≤ B + 1 by have := HBE.out; omega) (blkL (Sha.zeros 32) 0).toArray)
  go_wp2_with fail
  exact bodyPost_ret (results_cell_tmp2 rfl _ _ rfl (blk_load60 HN3.out (by rfl))) rfl ⟨rfl, HB3.out⟩
set_option maxRecDepth 100000 in
set_option maxHeartbeats 1000000 in
theorem take_hit (p c : Nat) (v : Value) (most : Nat) (l : List (List UInt8 × Nat)) (x : List UInt8) (hx : x.length = 32) (i : Nat) (prev : List UInt8) (n : Nat) (hat : atL x l = (i : Int)) (hi : l[i]? = some (prev, n)) (w : World) (hp : PoolAt w p c v most l) :
    Calls Try.prog 54 #[.pointer (some ⟨p, 0, none⟩), .agg (bytesA x)] w fun e w' => e = .returned (.tuple #[.agg (blkL prev n).toArray, .int .i64 0]) ∧ ∃ v', PoolAt w' p c v' most (l.eraseIdx i) ∧ Moved p c v w v' w' := by
  obtain ⟨_, _, _, hpl, hnn⟩ := items_split (l := l) hp.lens hi
  have HPL := Lib.hid hpl
  have HI := Lib.hid hi
  have hneg : ¬ (i : Int) < 0 := by omega
  clear hi hpl
  obtain ⟨W1, hW1, hb1, hn1, hn2, hsz⟩ := two_new w (.cells (bytesA x) 28) (.cells (blkL (Sha.zeros 32) 0).toArray 60)
  obtain ⟨B, hB⟩ : ∃ B, B = w.heap.size := ⟨_, rfl⟩
  rw [← hB] at hn1 hn2
  have HB1 := Lib.hid hb1
  have HN1 := Lib.hid hn1
  have HN2 := Lib.hid hn2
  have HW1 := Lib.hid hW1
  have HBE := Lib.hid hB
  have HP1 := Lib.hid (hp.below hb1)
  have HX := Lib.hid hx
  have HPW : Hid (p < w.heap.size) := Lib.hid (Array.getElem?_eq_some_iff.1 hp.row).1
  clear hb1 hn1 hn2 hW1 hsz hB hp hx
  go_enter Try.func54, Try.ntmps54
  go_upto_region 1 with (fail)
  change Code.wp Try.prog _ _ _ ((w.alloc (.cells (bytesA x) 28)).alloc (.cells (blkL (Sha.zeros 32) 0).toArray 60))
  rw [HW1.out, ← HBE.out]
  go_upto_region 3 with (go_at_call 93; refine (none_live W1 p c v most l HP1.out).mono ?_; rintro e w' ⟨rfl, rfl⟩)
  refine wp_region_lit ?_
  refine wpList_one (v := .pointer (some ⟨p, 0, none⟩)) (w' := W1) rfl (by kernel_rfl) ?_
  try (conv => lhs; change (Act.mk #[_,_,_,_,_,_,_,_,_,_,_,_,_,_,_,_,_,_,_,_,_] _))
  refine wpList_get rfl 28 (.tmp 3) rfl (A := ⟨B, 0, none⟩) rfl (load28 HN1.out HX.out) ?_
  try (conv => lhs; change (Act.mk #[_,_,_,_,_,_,_,_,_,_,_,_,_,_,_,_,_,_,_,_,_] _))
  refine wpList_call rfl (f := 96) (args := #[.pointer (some ⟨p, 0, none⟩), .agg (bytesA x)]) (by kernel_rfl) ((at_any p c v most l x HX.out W1 HP1.out).mono ?_)
  rintro e W2 ⟨rfl, hb2⟩
  refine ⟨_, rfl, ?_⟩
  try (conv => lhs; change (Act.mk #[_,_,_,_,_,_,_,_,_,_,_,_,_,_,_,_,_,_,_,_,_] _))
  have HN1 := Lib.hid (block_below' hb2 HN1.out)
  have HN2 := Lib.hid (block_below' hb2 HN2.out)
  have HB2 := Lib.hid (HB1.out.trans (hb2.mono HB1.out.size))
  have HP2 := Lib.hid (HP1.out.below hb2)
  clear hb2
  rw [hat]
  go_upto_region 6 with (fail)
  refine wp_region_lit ?_
  refine wpList_one (v := .pointer (some ⟨p, 0, none⟩)) (w' := W2) rfl (by kernel_rfl) ?_
  try (conv => lhs; change (Act.mk #[_,_,_,_,_,_,_,_,_,_,_,_,_,_,_,_,_,_,_,_,_] _))
  refine wpList_one (v := .int .i64 (i : Int)) (w' := W2) rfl (by kernel_rfl) ?_
  try (conv => lhs; change (Act.mk #[_,_,_,_,_,_,_,_,_,_,_,_,_,_,_,_,_,_,_,_,_] _))
  refine wpList_call rfl (f := 101) (args := #[.pointer (some ⟨p, 0, none⟩), .int .i64 (i : Int)]) (by kernel_rfl) ((out_any p c v most l i prev n HI.out W2 HP2.out).mono ?_)
  rintro e W3 ⟨rfl, v', hp3, hm3⟩
  refine ⟨_, rfl, ?_⟩
  try (conv => lhs; change (Act.mk #[_,_,_,_,_,_,_,_,_,_,_,_,_,_,_,_,_,_,_,_,_] _))
  have HN3 := Lib.hid (hm3.atPool HP2.out HN2.out (by decide) (by have := HPW.out; have := HBE.out; omega))
  have HP3 := Lib.hid hp3
  have HM3 := Lib.hid ((Moved.of_below (p := p) (c := c) (v := v) HB2.out).trans hm3)
  clear hp3 hm3
  refine wpList_one (v := .agg (blkL prev n).toArray) (w' := W3) rfl (field_run (x := .tmp 18) rfl rfl (field139_1 _ prev n (hh_length _ _) HPL.out W3)) ?_
  try (conv => lhs; change (Act.mk #[_,_,_,_,_,_,_,_,_,_,_,_,_,_,_,_,_,_,_,_,_] _))
  refine wpList_call rfl (f := 95) (args := #[.agg (blkL prev n).toArray]) (by kernel_rfl) ((bcopy_any prev n HPL.out W3).mono ?_)
  rintro e W4 ⟨rfl, hb4⟩
  refine ⟨_, rfl, ?_⟩
  try (conv => lhs; change (Act.mk #[_,_,_,_,_,_,_,_,_,_,_,_,_,_,_,_,_,_,_,_,_] _))
  have HN4 := Lib.hid (block_below' hb4 HN3.out)
  have HP4 := Lib.hid (HP3.out.below hb4)
  have HM4 := Lib.hid (HM3.out.below hb4)
  clear hb4
  refine wpList_put rfl 60 (.tmp 4) (.tmp 20) rfl (A := ⟨B + 1, 0, none⟩) (v := .agg (blkL prev n).toArray) rfl rfl (blk_store60 HN4.out (by rw [List.size_toArray, blkL_length _ _ (by rfl)]) HPL.out) ?_
  try (conv => lhs; change (Act.mk #[_,_,_,_,_,_,_,_,_,_,_,_,_,_,_,_,_,_,_,_,_] _))
  have HN5 := Lib.hid (setRow_heap W4 (B + 1) _ (blkL prev n).toArray _ _ HN4.out)
  have HP5 := Lib.hid (HP4.out.setRow HN4.out (by decide) (by have := HPW.out; have := HBE.out; omega) (blkL prev n).toArray)
  have HM5 := Lib.hid (HM4.out.setRow (k := B + 1) (by have := HBE.out; omega) (blkL prev n).toArray)
  go_wp2_with fail
  exact bodyPost_ret (results_cell_tmp2 rfl _ _ rfl (blk_load60 HN5.out HPL.out)) rfl ⟨rfl, v', HP5.out, HM5.out⟩
end Go.Proofs.Ytdecbimklomdjaa
