/- A pool's All. -/
import Derived.Test.YtdecbimklomdjaaHashes
namespace Go.Proofs.Ytdecbimklomdjaa
open Go Go.RowKit Go.Shelf
attribute [local go_sem] Oper.semAt_some
section
variable {F : Fence} {n : Nat} {P : Program} {ops : Array Oper} {Q : Exit → Act → World → Prop} {md : Region.Mode} {K : Act → World → Prop} {a : Act} {w w' : World} {i : Nat} {o : Oper}
theorem anyIn_ready {rs : List Nat} {fuel : Nat} {listed : Array Bool} (hr : Region.ready md ops listed = rs) (hne : rs ≠ []) (h : ∀ i ∈ rs, wpOpIn F n P ops Q i (wpAnyIn F n P md ops Q fuel (listed.setIfInBounds i true)) a w) : wpAnyIn F n P md ops Q (fuel + 1) listed a w :=
  ⟨fun h0 => absurd (hr.symm.trans h0) hne, hr ▸ h⟩
theorem anyIn_done {fuel : Nat} {listed : Array Bool} (hr : Region.ready md ops listed = []) (h : Q .normal a w) : wpAnyIn F n P md ops Q fuel listed a w := by
  cases fuel with
  | zero => exact ⟨hr, h⟩
  | succ k => exact ⟨fun _ => h, fun i hi => by rw [hr] at hi; cases hi⟩
theorem opIn_val (ho : ops[i]? = some o) (hF : ∀ f, F.fn f) (hgd : o.guard = none) (hd : ∀ c, o.op ≠ .defer c) {v : Value} (h : (execOp a.eval o).run P w = .ok (.value v) w') (hK : K (a.put o.dst v) w') : wpOpIn F n P ops Q i K a w := by
  unfold wpOpIn
  simp only [ho]
  rw [if_pos (show Region.wanted o (yielded ops a.tmps) = true by simp [Region.wanted, hgd])]
  exact ⟨fun f _ => hF f, by rw [Oper.semAt_plain _ _ _ hd, h]; exact hK⟩
theorem opIn_skip (ho : ops[i]? = some o) (hF : ∀ f, F.fn f) (hgd : o.guard = none) (hd : ∀ c, o.op ≠ .defer c) (h : (execOp a.eval o).run P w = .ok .skip w') (hK : K (a.put o.dst undef) w') : wpOpIn F n P ops Q i K a w := by
  unfold wpOpIn
  simp only [ho]
  rw [if_pos (show Region.wanted o (yielded ops a.tmps) = true by simp [Region.wanted, hgd])]
  exact ⟨fun f _ => hF f, by rw [Oper.semAt_plain _ _ _ hd, h]; exact hK⟩
theorem opIn_call {L : Nat} (ho : ops[i]? = some o) (hF : ∀ f, (Fence.wide.inRound L).fn f) (hgd : o.guard = none) (hd : ∀ c, o.op ≠ .defer c) {f : FuncId} {args : Array Value} (h : (execOp a.eval o).run P w = .ok (.enter f args) w)
    (hc : Calls P f args w fun e w' => ∃ v, e = .returned v ∧ K (a.put o.dst v) w') : wpOpIn (Fence.wide.inRound L) 0 P ops Q i K a w := by
  unfold wpOpIn
  simp only [ho]
  rw [if_pos (show Region.wanted o (yielded ops a.tmps) = true by simp [Region.wanted, hgd])]
  refine ⟨fun f _ => hF f, ?_⟩
  rw [Oper.semAt_plain _ _ _ hd, h]
  refine ⟨fun h => by simp [Fence.wide] at h, (CallsIn.inRound _ (callsIn_wide.2 hc)).mono ?_⟩
  rintro e w' ⟨v, rfl, hv⟩
  exact hv
end
def blkCells (l : List (List UInt8 × Nat)) : List Value := l.flatMap fun b => blkL b.1 b.2
theorem load63 {w : World} {A : Addr} {v : Value} (h : w.cell? A = some v) : (loadVar 63 A).run Try.prog w = .ok v w := by
  simp [loadVar, isAgg, run_underlying Try.underlying63, h]
theorem store63 {w : World} {A : Addr} {u : Value} {a : Option Addr} {n c : Nat} (h : w.cell? A = some u) (hf : w.frozen? A = false) : (storeVar 63 A (.slice a n c)).run Try.prog w = .ok () (w.setCell A (.slice a n c)) := by
  simp [storeVar, Value.cells, storeCells, Addr.add]
  rw [run_store _ _ _ _ _ (by rfl), h]
  simp [hf]
theorem one_block {w : World} {g : Nat} {prev : List UInt8} {n : Nat} (h : w.heap[g]? = some (.cells (oneL (hh prev n) prev n).toArray 139 (0, 0))) (hp : prev.length = 32) : (loadVar 60 ⟨g, 32, none⟩).run Try.prog w = .ok (.agg (blkL prev n).toArray) w :=
  blk_part w g 32 (oneL (hh prev n) prev n) (blkL prev n) 60 _ (0, 0) 139 h (fun j v hj => by
    have := part_mid ((hh prev n).map V8) (blkL prev n) [] 32 j v (by rw [List.length_map, hh_length]) hj
    simpa [oneL] using this) Try.underlying60 rfl ((size60 prev n hp).trans (by rw [List.size_toArray]))
structure AllM (w W : World) (B p : Nat) (u : Value) (lp : Loop) : Prop where
  below : Below w.heap.size w W
  size : B + 4 ≤ W.heap.size
  u : W.heap[B]? = some (.cells #[u] 63 (0, 0))
  b : W.heap[B + 1]? = some (.cells #[.pointer (some ⟨p, 0, none⟩)] 44 (0, 0))
  d : W.heap[B + 2]? = some (.deferred (some []))
  l : W.heap[B + 3]? = some (.loop lp)
theorem AllM.mono {w W W' : World} {B p : Nat} {u : Value} {lp : Loop} (h : AllM w W B p u lp) (hb : Below W.heap.size W W') : AllM w W' B p u lp :=
  ⟨h.below.trans (hb.mono h.below.size), Nat.le_trans h.size hb.size, block_below' hb h.u, block_below' hb h.b, block_below' hb h.d, block_below' hb h.l⟩
theorem AllM.put {w W : World} {B p : Nat} {u : Value} {lp : Loop} (h : AllM w W B p u lp) (hB : B = w.heap.size) (lp' : Loop) : AllM w (W.putObj (B + 3) (.loop lp')) B p u lp' := by
  have hs := h.size
  have ho : ∀ i, i ≠ B + 3 → (W.putObj (B + 3) (.loop lp')).heap[i]? = W.heap[i]? := fun i hi => World.putObj_heap_other hi
  refine ⟨?_, by simpa using hs, (ho _ (by omega)).trans h.u, (ho _ (by omega)).trans h.b, (ho _ (by omega)).trans h.d, World.putObj_heap_same (by omega)⟩
  exact ⟨h.below.os, h.below.tape, h.below.output, by simpa using h.below.size, fun i hi => (ho i (by omega)).trans (h.below.block i hi)⟩
theorem AllM.set {w W : World} {B p : Nat} {u : Value} {lp : Loop} (h : AllM w W B p u lp) (hB : B = w.heap.size) (u' : Value) : AllM w (W.setCell ⟨B, 0, none⟩ u') B p u' lp := by
  have ho : ∀ i, i ≠ B → (W.setCell ⟨B, 0, none⟩ u').heap[i]? = W.heap[i]? := fun i hi => heap_setCell_other _ _ _ _ hi
  exact ⟨h.below.setCell (p := ⟨B, 0, none⟩) (by show w.heap.size ≤ B; omega) _, by simpa using h.size, (heap_setCell_same _ _ _ _ _ _ h.u).trans rfl, (ho _ (by omega)).trans h.b, (ho _ (by omega)).trans h.d, (ho _ (by omega)).trans h.l⟩
theorem AllM.grown {w W W' : World} {B p : Nat} {u u' : Value} {lp : Loop} (h : AllM w W B p u lp) (hB : B = w.heap.size) (hg : W.grownBy W' u'.ownBlock) (hu : ∀ k, u'.ownBlock = some k → B + 4 ≤ k) : AllM w W' B p u lp := by
  have hs := h.size
  have ho : ∀ i, i < B + 4 → W'.heap[i]? = W.heap[i]? := fun i hi => hg.block i (by omega) (fun e => by have := hu i e.symm; omega)
  refine ⟨⟨hg.os.trans h.below.os, hg.tape.trans h.below.tape, hg.output.trans h.below.output, Nat.le_trans h.below.size hg.size, fun i hi => (ho i (by omega)).trans (h.below.block i hi)⟩, Nat.le_trans hs hg.size, (ho _ (by omega)).trans h.u, (ho _ (by omega)).trans h.b, (ho _ (by omega)).trans h.d, (ho _ (by omega)).trans h.l⟩
theorem own_low {w w' : World} {base : Nat} {e : TypeId} {s n : Nat} {v : Value} {xs : List Value} (h : w.ownsRow base e s v n xs) (ho : ∀ i, base ≤ i → w'.heap[i]? = w.heap[i]?) : w'.ownsRow base e s v n xs :=
  own_of_block h (fun k hk => ho k (h.lt k hk).1) (Nat.le_refl _)
theorem blkCells_snoc (l : List (List UInt8 × Nat)) (b : List UInt8 × Nat) : blkCells (l ++ [b]) = blkCells l ++ blkL b.1 b.2 := by
  unfold blkCells; rw [List.flatMap_append]; simp
set_option maxRecDepth 100000 in
set_option maxHeartbeats 2000000 in
theorem all_live (p c : Nat) (v : Value) (most : Nat) (l : List (List UInt8 × Nat)) (w : World) (hp : PoolAt w p c v most l) :
    Calls Try.prog 40 #[.pointer (some ⟨p, 0, none⟩)] w fun e w' => (∃ a n, e = .returned (.slice a l.length n)) ∧ Below w.heap.size w w' := by
  obtain ⟨B, hB⟩ : ∃ B, B = w.heap.size := ⟨_, rfl⟩
  have HBE := Lib.hid hB
  have HP := Lib.hid hp
  have HL50 := Lib.hid (Nat.le_trans hp.fits hp.most)
  have hnl := none_live w p c v most l hp
  have HNL := Lib.hid hnl
  clear hp hnl
  refine calls_of_wp_marks Try.func40 rfl ?_
  simp only [Try.ntmps40, List.size_toArray, List.length_cons, List.length_nil, Nat.reduceAdd, Nat.reduceSub, Array.replicate_succ, Array.replicate_zero, List.push_toArray, List.append_toArray, List.nil_append, List.cons_append]
  go_wp2_with fail
  refine HNL.out.mono ?_
  rintro e w' ⟨rfl, rfl⟩
  go_wp2_with (go_at_call 94; refine (each_any _ _).mono ?_; rintro e W4 ⟨rfl, rfl⟩)
  obtain ⟨W3, hW3, hb3, hn1, hn2, hsz⟩ := two_new w (.cells #[.slice none 0 0] 63) (.cells #[.pointer (some ⟨p, 0, none⟩)] 44)
  rw [← hB] at hn1 hn2 hsz
  have hszB : (w.alloc (.cells #[.slice none 0 0] 63)).heap.size = B + 1 := by rw [hB]; simp
  try rw [hszB]
  rw [hW3]
  rw [← hB]
  have HB3 := Lib.hid hb3
  have HN1 := Lib.hid hn1
  have HN2 := Lib.hid hn2
  have HSZ := Lib.hid hsz
  clear hW3 hb3 hn1 hn2 hB hszB
  refine wp_rangeFunc rfl (enters_of Try.func123 (by kernel_rfl) rfl) ?_
  rintro rec ⟨fn, hrec⟩
  rw [hsz] at hrec ⊢
  have HREC := Lib.hid hrec
  clear hrec hsz
  have he4 : B + 2 + 1 = B + 3 := rfl
  rw [he4]
  refine (each1_in (B + 3) (B + 1) p c v most l (fun k W => ∃ u, AllM w W B p u (rec .ready none) ∧ W.ownsRow (B + 4) 60 69 u k (blkCells (l.take k)))
    (fun W => ∃ u, AllM w W B p u (rec .ready none) ∧ W.ownsRow (B + 4) 60 69 u l.length (blkCells l)) ?hP ?hA ?hY ?hN _ ?h0).mono ?fin
  case hP =>
    rintro k W ⟨u, h, _⟩
    exact ⟨HP.out.below h.below, cell_of_row _ _ _ _ _ _ h.b⟩
  case hA =>
    rintro k W o ⟨u, h, h2⟩
    have hb : Below W.heap.size W (W.alloc o) := (Below.refl _ _).alloc (Nat.le_refl _) _
    exact ⟨u, h.mono hb, h2.kept (grownBy_of_below hb none) (own_some _)⟩
  case hN =>
    rintro W ⟨u, h, h2⟩
    rw [List.take_length] at h2
    exact ⟨u, h, h2⟩
  case h0 =>
    refine ⟨.slice none 0 0, ⟨?_, ?_, ?_, ?_, ?_, ?_⟩, World.ownsRow_nil _ _ _ _⟩
    · exact ((HB3.out.alloc HB3.out.size _).alloc (by have := HB3.out.size; simp; omega) _)
    · simp [HSZ.out]
    · rw [heap_alloc_lt (by simp [HSZ.out]; omega), heap_alloc_lt (by rw [HSZ.out]; omega)]; exact HN1.out
    · rw [heap_alloc_lt (by simp [HSZ.out]), heap_alloc_lt (by rw [HSZ.out]; omega)]; exact HN2.out
    · rw [heap_alloc_lt (by simp [HSZ.out]), ← HSZ.out]; exact heap_alloc_new _ _
    · have := heap_alloc_new (W3.alloc (.deferred (some []))) (.loop (rec .ready none))
      rwa [show (W3.alloc (.deferred (some []))).heap.size = B + 3 by simp [HSZ.out]] at this
  case hY =>
    rintro k W prev n hi ⟨u, hM, hown⟩
    have hklt := (List.getElem?_eq_some_iff.1 hi).1
    obtain ⟨_, _, _, hpl, _⟩ := items_split (l := l) HP.out.lens hi
    obtain ⟨A, hA⟩ : ∃ A, A = (oneL (hh prev n) prev n).toArray := ⟨_, rfl⟩
    obtain ⟨W1, hW1⟩ : ∃ W1, W1 = W.alloc (.cells A 139) := ⟨_, rfl⟩
    obtain ⟨q, hq⟩ : ∃ q, q = W.heap.size := ⟨_, rfl⟩
    have hb1 : Below W.heap.size W W1 := hW1 ▸ (Below.refl _ _).alloc (Nat.le_refl _) _
    have hrow : W1.heap[q]? = some (.cells A 139 (0, 0)) := by rw [hW1, hq]; exact heap_alloc_new _ _
    have hst := one_store (n := n) (heap_alloc_new W (.cells Try.zeroCells139 139)) (by kernel_rfl) hpl
    rw [World.setRow_alloc_new, ← hA, ← hW1] at hst
    have hM1 := hM.mono hb1
    have hM2 := hM1.put HBE.out (rec .busy none)
    have hown1 := hown.kept (grownBy_of_below hb1 none) (own_some _)
    obtain ⟨W2, hW2⟩ : ∃ W2, W2 = W1.putObj (B + 3) (.loop (rec .busy none)) := ⟨_, rfl⟩
    rw [← hW2] at hM2
    have hown2 : W2.ownsRow (B + 4) 60 69 u k (blkCells (l.take k)) := own_low hown1 fun i hi => by rw [hW2]; exact World.putObj_heap_other (by omega)
    have hrow2 : W2.heap[q]? = some (.cells A 139 (0, 0)) := by rw [hW2, World.putObj_heap_other (by have := hM.size; omega)]; exact hrow
    have hqB : B + 4 ≤ q := by rw [hq]; exact hM.size
    have HST := Lib.hid hst
    have HM1 := Lib.hid hM1
    have HM2 := Lib.hid hM2
    have HO2 := Lib.hid hown2
    have HA := Lib.hid hA
    have HI := Lib.hid hi
    have HPL := Lib.hid hpl
    have HKL := Lib.hid hklt
    have HROW : Hid (W2.heap[q]? = some (.cells (oneL (hh prev n) prev n).toArray 139 (0, 0))) := Lib.hid (by rw [← hA]; exact hrow2)
    have HQB := Lib.hid hqB
    have hl := hM.l
    clear hst hM1 hrow hrow2 hb1 hA hM hM2 hi hown hown1 hown2 hqB hpl hklt
    refine yieldAt_made HREC.out hl rfl ?_
    rw [← HA.out]
    clear hl
    conv => lhs; simp
    gi_upto_region 5 with (fail)
    refine wpIn_region_lit ?_
    refine wpListIn_one (v := .pointer (some ⟨W.heap.size, 0, none⟩)) (w' := W.alloc (.cells Try.zeroCells139 139)) (fun _ => trivial) rfl (by intro c h; cases h) (by kernel_rfl) ?_
    try (conv => lhs; change (Act.mk #[_,_,_,_,_,_,_,_,_,_,_,_,_,_,_,_,_,_,_] _))
    refine wpListIn_put (fun _ => trivial) rfl 139 (.tmp 5) (.tmp 11) rfl (A := ⟨W.heap.size, 0, none⟩) (v := .agg A) rfl rfl HST.out ?_
    try (conv => lhs; change (Act.mk #[_,_,_,_,_,_,_,_,_,_,_,_,_,_,_,_,_,_,_] _))
    rw [← hq]
    refine ⟨HM1.out.l, ?_⟩
    rw [← hW2]
    clear hq hW1 hW2 HM1 HST
    gi_upto_region 6 with (fail)
    refine wpIn_region_any (by kernel_rfl) ?_
    obtain ⟨W5, hW5⟩ : ∃ W5, W5 = W2.drew := ⟨_, rfl⟩
    have hb5 : Below W2.heap.size W2 W5 := hW5 ▸ (Below.refl _ _).drew
    change wpAnyIn _ _ _ _ _ _ _ _ _ W2.drew
    rw [← hW5]
    have HM := Lib.hid (HM2.out.mono hb5)
    have HO := Lib.hid (HO2.out.kept (grownBy_of_below hb5 none) (own_some _))
    have HR := Lib.hid (block_below' hb5 HROW.out)
    clear hb5 hW5 HM2 HO2 HROW
    refine anyIn_ready (rs := [0, 1]) (by kernel_rfl) (by simp) ?_
    intro i hir
    obtain rfl | rfl : i = 0 ∨ i = 1 := by simpa using hir
    · clear hir
      refine opIn_val (v := u) (w' := W5) rfl (fun _ => trivial) rfl (by intro c h; cases h) (load_run (x := .tmp 3) (A := ⟨B, 0, none⟩) rfl rfl (load63 (cell_of_row _ _ _ _ _ _ HM.out.u))) ?_
      try (conv => lhs; change (Act.mk #[_,_,_,_,_,_,_,_,_,_,_,_,_,_,_,_,_,_,_] _))
      refine anyIn_ready (rs := [1]) (by kernel_rfl) (by simp) ?_
      intro i hir
      obtain rfl : i = 1 := by simpa using hir
      clear hir
      refine opIn_val (v := .pointer (some ⟨q, 32, none⟩)) (w' := W5) rfl (fun _ => trivial) rfl (by intro c h; cases h) (by kernel_rfl) ?_
      try (conv => lhs; change (Act.mk #[_,_,_,_,_,_,_,_,_,_,_,_,_,_,_,_,_,_,_] _))
      refine anyIn_ready (rs := [2]) (by kernel_rfl) (by simp) ?_
      intro i hir
      obtain rfl : i = 2 := by simpa using hir
      clear hir
      refine opIn_val (v := .agg (blkL prev n).toArray) (w' := W5) rfl (fun _ => trivial) rfl (by intro c h; cases h) (load_run (x := .tmp 13) (A := ⟨q, 32, none⟩) rfl rfl (one_block HR.out HPL.out)) ?_
      try (conv => lhs; change (Act.mk #[_,_,_,_,_,_,_,_,_,_,_,_,_,_,_,_,_,_,_] _))
      refine anyIn_ready (rs := [3]) (by kernel_rfl) (by simp) ?_
      intro i hir
      obtain rfl : i = 3 := by simpa using hir
      clear hir
      refine opIn_call rfl (fun _ => trivial) rfl (by intro c h; cases h) (f := 95) (args := #[.agg (blkL prev n).toArray]) (by kernel_rfl) ((bcopy_any prev n HPL.out W5).mono ?_)
      rintro e W6 ⟨rfl, hb⟩
      refine ⟨_, rfl, ?_⟩
      have HM := Lib.hid (HM.out.mono hb)
      have HO := Lib.hid (HO.out.kept (grownBy_of_below hb none) (own_some _))
      clear hb HR
      try (conv => lhs; change (Act.mk #[_,_,_,_,_,_,_,_,_,_,_,_,_,_,_,_,_,_,_] _))
      refine anyIn_ready (rs := [4]) (by kernel_rfl) (by simp) ?_
      intro i hir
      obtain rfl : i = 4 := by simpa using hir
      clear hir
      refine opIn_val (v := .slice (some ⟨W6.heap.size, 0, none⟩) 1 1) (w' := W6.alloc (.cells (blkL prev n).toArray 60)) rfl (fun _ => trivial) rfl (by intro c h; cases h) (buildS_run (x := .tmp 15) rfl rfl (run_buildTo 63 60 1 #[(0, .agg (blkL prev n).toArray)] Try.underlying63 (fill60 prev n HPL.out))) ?_
      obtain ⟨W7, hWn⟩ : ∃ W', W' = W6.alloc (.cells (blkL prev n).toArray 60) := ⟨_, rfl⟩
      obtain ⟨g, hg⟩ : ∃ g, g = W6.heap.size := ⟨_, rfl⟩
      have hb : Below W6.heap.size W6 W7 := hWn ▸ (Below.refl _ _).alloc (Nat.le_refl _) _
      have HG : Hid (W7.heap[g]? = some (.cells (blkL prev n).toArray 60 (0, 0))) := Lib.hid (by rw [hWn, hg]; exact heap_alloc_new _ _)
      rw [← hWn, ← hg]
      have HM := Lib.hid (HM.out.mono hb)
      have HO := Lib.hid (HO.out.kept (grownBy_of_below hb none) (own_some _))
      clear hb hWn hg
      try (conv => lhs; change (Act.mk #[_,_,_,_,_,_,_,_,_,_,_,_,_,_,_,_,_,_,_] _))
      refine anyIn_ready (rs := [5]) (by kernel_rfl) (by simp) ?_
      intro i hir
      obtain rfl : i = 5 := by simpa using hir
      clear hir
      obtain ⟨u', W8, hrun, hown, hgr⟩ := append60 W7 63 (B + 4) HM.out.size u k (blkCells (l.take k)) HO.out (by have := HKL.out; have := HL50.out; omega) g prev n HPL.out HG.out
      refine opIn_val (v := u') (w' := W8) rfl (fun _ => trivial) rfl (by intro c h; cases h) (append_run (x := .tmp 12) (y := .tmp 16) rfl rfl rfl hrun) ?_
      have HM := Lib.hid (HM.out.grown HBE.out hgr (fun k hk => (HO.out.lt k hk).1))
      obtain ⟨ua, uc, hus⟩ := own_slice hown
      subst hus
      have HOa := Lib.hid hown
      clear hown hgr hrun HO
      try (conv => lhs; change (Act.mk #[_,_,_,_,_,_,_,_,_,_,_,_,_,_,_,_,_,_,_] _))
      refine anyIn_ready (rs := [6]) (by kernel_rfl) (by simp) ?_
      intro i hir
      obtain rfl : i = 6 := by simpa using hir
      clear hir
      refine opIn_skip rfl (fun _ => trivial) rfl (by intro c h; cases h) (store_run (x := .tmp 3) (y := .tmp 17) (A := ⟨B, 0, none⟩) rfl rfl rfl (store63 (cell_of_row _ _ _ _ _ _ HM.out.u) (frozen_of_row _ _ _ _ _ HM.out.u))) ?_
      have HMn := Lib.hid (HM.out.set HBE.out (.slice ua (k + 1) uc))
      have HOn := Lib.hid (own_low (w' := W8.setCell ⟨B, 0, none⟩ (.slice ua (k + 1) uc)) HOa.out fun i hi => heap_setCell_other _ _ _ _ (show i ≠ B by omega))
      obtain ⟨W9, hWn⟩ : ∃ W', W' = W8.setCell ⟨B, 0, none⟩ (.slice ua (k + 1) uc) := ⟨_, rfl⟩
      rw [← hWn] at HMn HOn
      rw [← hWn]
      clear hWn HM HOa
      try (conv => lhs; change (Act.mk #[_,_,_,_,_,_,_,_,_,_,_,_,_,_,_,_,_,_,_] _))
      refine anyIn_done (by kernel_rfl) ?_
      first | change Exit.then _ _ Exit.normal _ _ | change Exit.inBlock _ _ Exit.normal _ _
      try (conv => lhs; change (Act.mk #[_,_,_,_,_,_,_,_,_,_,_,_,_,_,_,_,_,_,_] _))
      gi_wp2
      refine ⟨HMn.out.l, .inl ⟨rfl, _, HMn.out.put HBE.out _, ?_⟩⟩
      rw [show l.take (k + 1) = l.take k ++ [(prev, n)] by rw [List.take_add_one, HI.out]; rfl, blkCells_snoc]
      exact own_low HOn.out fun i hi => World.putObj_heap_other (by omega)
    · clear hir
      refine opIn_val (v := .pointer (some ⟨q, 32, none⟩)) (w' := W5) rfl (fun _ => trivial) rfl (by intro c h; cases h) (by kernel_rfl) ?_
      try (conv => lhs; change (Act.mk #[_,_,_,_,_,_,_,_,_,_,_,_,_,_,_,_,_,_,_] _))
      refine anyIn_ready (rs := [0, 2]) (by kernel_rfl) (by simp) ?_
      intro i hir
      obtain rfl | rfl : i = 0 ∨ i = 2 := by simpa using hir
      · clear hir
        refine opIn_val (v := u) (w' := W5) rfl (fun _ => trivial) rfl (by intro c h; cases h) (load_run (x := .tmp 3) (A := ⟨B, 0, none⟩) rfl rfl (load63 (cell_of_row _ _ _ _ _ _ HM.out.u))) ?_
        try (conv => lhs; change (Act.mk #[_,_,_,_,_,_,_,_,_,_,_,_,_,_,_,_,_,_,_] _))
        refine anyIn_ready (rs := [2]) (by kernel_rfl) (by simp) ?_
        intro i hir
        obtain rfl : i = 2 := by simpa using hir
        clear hir
        refine opIn_val (v := .agg (blkL prev n).toArray) (w' := W5) rfl (fun _ => trivial) rfl (by intro c h; cases h) (load_run (x := .tmp 13) (A := ⟨q, 32, none⟩) rfl rfl (one_block HR.out HPL.out)) ?_
        try (conv => lhs; change (Act.mk #[_,_,_,_,_,_,_,_,_,_,_,_,_,_,_,_,_,_,_] _))
        refine anyIn_ready (rs := [3]) (by kernel_rfl) (by simp) ?_
        intro i hir
        obtain rfl : i = 3 := by simpa using hir
        clear hir
        refine opIn_call rfl (fun _ => trivial) rfl (by intro c h; cases h) (f := 95) (args := #[.agg (blkL prev n).toArray]) (by kernel_rfl) ((bcopy_any prev n HPL.out W5).mono ?_)
        rintro e W6 ⟨rfl, hb⟩
        refine ⟨_, rfl, ?_⟩
        have HM := Lib.hid (HM.out.mono hb)
        have HO := Lib.hid (HO.out.kept (grownBy_of_below hb none) (own_some _))
        clear hb HR
        try (conv => lhs; change (Act.mk #[_,_,_,_,_,_,_,_,_,_,_,_,_,_,_,_,_,_,_] _))
        refine anyIn_ready (rs := [4]) (by kernel_rfl) (by simp) ?_
        intro i hir
        obtain rfl : i = 4 := by simpa using hir
        clear hir
        refine opIn_val (v := .slice (some ⟨W6.heap.size, 0, none⟩) 1 1) (w' := W6.alloc (.cells (blkL prev n).toArray 60)) rfl (fun _ => trivial) rfl (by intro c h; cases h) (buildS_run (x := .tmp 15) rfl rfl (run_buildTo 63 60 1 #[(0, .agg (blkL prev n).toArray)] Try.underlying63 (fill60 prev n HPL.out))) ?_
        obtain ⟨W7, hWn⟩ : ∃ W', W' = W6.alloc (.cells (blkL prev n).toArray 60) := ⟨_, rfl⟩
        obtain ⟨g, hg⟩ : ∃ g, g = W6.heap.size := ⟨_, rfl⟩
        have hb : Below W6.heap.size W6 W7 := hWn ▸ (Below.refl _ _).alloc (Nat.le_refl _) _
        have HG : Hid (W7.heap[g]? = some (.cells (blkL prev n).toArray 60 (0, 0))) := Lib.hid (by rw [hWn, hg]; exact heap_alloc_new _ _)
        rw [← hWn, ← hg]
        have HM := Lib.hid (HM.out.mono hb)
        have HO := Lib.hid (HO.out.kept (grownBy_of_below hb none) (own_some _))
        clear hb hWn hg
        try (conv => lhs; change (Act.mk #[_,_,_,_,_,_,_,_,_,_,_,_,_,_,_,_,_,_,_] _))
        refine anyIn_ready (rs := [5]) (by kernel_rfl) (by simp) ?_
        intro i hir
        obtain rfl : i = 5 := by simpa using hir
        clear hir
        obtain ⟨u', W8, hrun, hown, hgr⟩ := append60 W7 63 (B + 4) HM.out.size u k (blkCells (l.take k)) HO.out (by have := HKL.out; have := HL50.out; omega) g prev n HPL.out HG.out
        refine opIn_val (v := u') (w' := W8) rfl (fun _ => trivial) rfl (by intro c h; cases h) (append_run (x := .tmp 12) (y := .tmp 16) rfl rfl rfl hrun) ?_
        have HM := Lib.hid (HM.out.grown HBE.out hgr (fun k hk => (HO.out.lt k hk).1))
        obtain ⟨ua, uc, hus⟩ := own_slice hown
        subst hus
        have HOa := Lib.hid hown
        clear hown hgr hrun HO
        try (conv => lhs; change (Act.mk #[_,_,_,_,_,_,_,_,_,_,_,_,_,_,_,_,_,_,_] _))
        refine anyIn_ready (rs := [6]) (by kernel_rfl) (by simp) ?_
        intro i hir
        obtain rfl : i = 6 := by simpa using hir
        clear hir
        refine opIn_skip rfl (fun _ => trivial) rfl (by intro c h; cases h) (store_run (x := .tmp 3) (y := .tmp 17) (A := ⟨B, 0, none⟩) rfl rfl rfl (store63 (cell_of_row _ _ _ _ _ _ HM.out.u) (frozen_of_row _ _ _ _ _ HM.out.u))) ?_
        have HMn := Lib.hid (HM.out.set HBE.out (.slice ua (k + 1) uc))
        have HOn := Lib.hid (own_low (w' := W8.setCell ⟨B, 0, none⟩ (.slice ua (k + 1) uc)) HOa.out fun i hi => heap_setCell_other _ _ _ _ (show i ≠ B by omega))
        obtain ⟨W9, hWn⟩ : ∃ W', W' = W8.setCell ⟨B, 0, none⟩ (.slice ua (k + 1) uc) := ⟨_, rfl⟩
        rw [← hWn] at HMn HOn
        rw [← hWn]
        clear hWn HM HOa
        try (conv => lhs; change (Act.mk #[_,_,_,_,_,_,_,_,_,_,_,_,_,_,_,_,_,_,_] _))
        refine anyIn_done (by kernel_rfl) ?_
        first | change Exit.then _ _ Exit.normal _ _ | change Exit.inBlock _ _ Exit.normal _ _
        try (conv => lhs; change (Act.mk #[_,_,_,_,_,_,_,_,_,_,_,_,_,_,_,_,_,_,_] _))
        gi_wp2
        refine ⟨HMn.out.l, .inl ⟨rfl, _, HMn.out.put HBE.out _, ?_⟩⟩
        rw [show l.take (k + 1) = l.take k ++ [(prev, n)] by rw [List.take_add_one, HI.out]; rfl, blkCells_snoc]
        exact own_low HOn.out fun i hi => World.putObj_heap_other (by omega)
      · clear hir
        refine opIn_val (v := .agg (blkL prev n).toArray) (w' := W5) rfl (fun _ => trivial) rfl (by intro c h; cases h) (load_run (x := .tmp 13) (A := ⟨q, 32, none⟩) rfl rfl (one_block HR.out HPL.out)) ?_
        try (conv => lhs; change (Act.mk #[_,_,_,_,_,_,_,_,_,_,_,_,_,_,_,_,_,_,_] _))
        refine anyIn_ready (rs := [0, 3]) (by kernel_rfl) (by simp) ?_
        intro i hir
        obtain rfl | rfl : i = 0 ∨ i = 3 := by simpa using hir
        · clear hir
          refine opIn_val (v := u) (w' := W5) rfl (fun _ => trivial) rfl (by intro c h; cases h) (load_run (x := .tmp 3) (A := ⟨B, 0, none⟩) rfl rfl (load63 (cell_of_row _ _ _ _ _ _ HM.out.u))) ?_
          try (conv => lhs; change (Act.mk #[_,_,_,_,_,_,_,_,_,_,_,_,_,_,_,_,_,_,_] _))
          refine anyIn_ready (rs := [3]) (by kernel_rfl) (by simp) ?_
          intro i hir
          obtain rfl : i = 3 := by simpa using hir
          clear hir
          refine opIn_call rfl (fun _ => trivial) rfl (by intro c h; cases h) (f := 95) (args := #[.agg (blkL prev n).toArray]) (by kernel_rfl) ((bcopy_any prev n HPL.out W5).mono ?_)
          rintro e W6 ⟨rfl, hb⟩
          refine ⟨_, rfl, ?_⟩
          have HM := Lib.hid (HM.out.mono hb)
          have HO := Lib.hid (HO.out.kept (grownBy_of_below hb none) (own_some _))
          clear hb HR
          try (conv => lhs; change (Act.mk #[_,_,_,_,_,_,_,_,_,_,_,_,_,_,_,_,_,_,_] _))
          refine anyIn_ready (rs := [4]) (by kernel_rfl) (by simp) ?_
          intro i hir
          obtain rfl : i = 4 := by simpa using hir
          clear hir
          refine opIn_val (v := .slice (some ⟨W6.heap.size, 0, none⟩) 1 1) (w' := W6.alloc (.cells (blkL prev n).toArray 60)) rfl (fun _ => trivial) rfl (by intro c h; cases h) (buildS_run (x := .tmp 15) rfl rfl (run_buildTo 63 60 1 #[(0, .agg (blkL prev n).toArray)] Try.underlying63 (fill60 prev n HPL.out))) ?_
          obtain ⟨W7, hWn⟩ : ∃ W', W' = W6.alloc (.cells (blkL prev n).toArray 60) := ⟨_, rfl⟩
          obtain ⟨g, hg⟩ : ∃ g, g = W6.heap.size := ⟨_, rfl⟩
          have hb : Below W6.heap.size W6 W7 := hWn ▸ (Below.refl _ _).alloc (Nat.le_refl _) _
          have HG : Hid (W7.heap[g]? = some (.cells (blkL prev n).toArray 60 (0, 0))) := Lib.hid (by rw [hWn, hg]; exact heap_alloc_new _ _)
          rw [← hWn, ← hg]
          have HM := Lib.hid (HM.out.mono hb)
          have HO := Lib.hid (HO.out.kept (grownBy_of_below hb none) (own_some _))
          clear hb hWn hg
          try (conv => lhs; change (Act.mk #[_,_,_,_,_,_,_,_,_,_,_,_,_,_,_,_,_,_,_] _))
          refine anyIn_ready (rs := [5]) (by kernel_rfl) (by simp) ?_
          intro i hir
          obtain rfl : i = 5 := by simpa using hir
          clear hir
          obtain ⟨u', W8, hrun, hown, hgr⟩ := append60 W7 63 (B + 4) HM.out.size u k (blkCells (l.take k)) HO.out (by have := HKL.out; have := HL50.out; omega) g prev n HPL.out HG.out
          refine opIn_val (v := u') (w' := W8) rfl (fun _ => trivial) rfl (by intro c h; cases h) (append_run (x := .tmp 12) (y := .tmp 16) rfl rfl rfl hrun) ?_
          have HM := Lib.hid (HM.out.grown HBE.out hgr (fun k hk => (HO.out.lt k hk).1))
          obtain ⟨ua, uc, hus⟩ := own_slice hown
          subst hus
          have HOa := Lib.hid hown
          clear hown hgr hrun HO
          try (conv => lhs; change (Act.mk #[_,_,_,_,_,_,_,_,_,_,_,_,_,_,_,_,_,_,_] _))
          refine anyIn_ready (rs := [6]) (by kernel_rfl) (by simp) ?_
          intro i hir
          obtain rfl : i = 6 := by simpa using hir
          clear hir
          refine opIn_skip rfl (fun _ => trivial) rfl (by intro c h; cases h) (store_run (x := .tmp 3) (y := .tmp 17) (A := ⟨B, 0, none⟩) rfl rfl rfl (store63 (cell_of_row _ _ _ _ _ _ HM.out.u) (frozen_of_row _ _ _ _ _ HM.out.u))) ?_
          have HMn := Lib.hid (HM.out.set HBE.out (.slice ua (k + 1) uc))
          have HOn := Lib.hid (own_low (w' := W8.setCell ⟨B, 0, none⟩ (.slice ua (k + 1) uc)) HOa.out fun i hi => heap_setCell_other _ _ _ _ (show i ≠ B by omega))
          obtain ⟨W9, hWn⟩ : ∃ W', W' = W8.setCell ⟨B, 0, none⟩ (.slice ua (k + 1) uc) := ⟨_, rfl⟩
          rw [← hWn] at HMn HOn
          rw [← hWn]
          clear hWn HM HOa
          try (conv => lhs; change (Act.mk #[_,_,_,_,_,_,_,_,_,_,_,_,_,_,_,_,_,_,_] _))
          refine anyIn_done (by kernel_rfl) ?_
          first | change Exit.then _ _ Exit.normal _ _ | change Exit.inBlock _ _ Exit.normal _ _
          try (conv => lhs; change (Act.mk #[_,_,_,_,_,_,_,_,_,_,_,_,_,_,_,_,_,_,_] _))
          gi_wp2
          refine ⟨HMn.out.l, .inl ⟨rfl, _, HMn.out.put HBE.out _, ?_⟩⟩
          rw [show l.take (k + 1) = l.take k ++ [(prev, n)] by rw [List.take_add_one, HI.out]; rfl, blkCells_snoc]
          exact own_low HOn.out fun i hi => World.putObj_heap_other (by omega)
        · clear hir
          refine opIn_call rfl (fun _ => trivial) rfl (by intro c h; cases h) (f := 95) (args := #[.agg (blkL prev n).toArray]) (by kernel_rfl) ((bcopy_any prev n HPL.out W5).mono ?_)
          rintro e W6 ⟨rfl, hb⟩
          refine ⟨_, rfl, ?_⟩
          have HM := Lib.hid (HM.out.mono hb)
          have HO := Lib.hid (HO.out.kept (grownBy_of_below hb none) (own_some _))
          clear hb HR
          try (conv => lhs; change (Act.mk #[_,_,_,_,_,_,_,_,_,_,_,_,_,_,_,_,_,_,_] _))
          refine anyIn_ready (rs := [0, 4]) (by kernel_rfl) (by simp) ?_
          intro i hir
          obtain rfl | rfl : i = 0 ∨ i = 4 := by simpa using hir
          · clear hir
            refine opIn_val (v := u) (w' := W6) rfl (fun _ => trivial) rfl (by intro c h; cases h) (load_run (x := .tmp 3) (A := ⟨B, 0, none⟩) rfl rfl (load63 (cell_of_row _ _ _ _ _ _ HM.out.u))) ?_
            try (conv => lhs; change (Act.mk #[_,_,_,_,_,_,_,_,_,_,_,_,_,_,_,_,_,_,_] _))
            refine anyIn_ready (rs := [4]) (by kernel_rfl) (by simp) ?_
            intro i hir
            obtain rfl : i = 4 := by simpa using hir
            clear hir
            refine opIn_val (v := .slice (some ⟨W6.heap.size, 0, none⟩) 1 1) (w' := W6.alloc (.cells (blkL prev n).toArray 60)) rfl (fun _ => trivial) rfl (by intro c h; cases h) (buildS_run (x := .tmp 15) rfl rfl (run_buildTo 63 60 1 #[(0, .agg (blkL prev n).toArray)] Try.underlying63 (fill60 prev n HPL.out))) ?_
            obtain ⟨W7, hWn⟩ : ∃ W', W' = W6.alloc (.cells (blkL prev n).toArray 60) := ⟨_, rfl⟩
            obtain ⟨g, hg⟩ : ∃ g, g = W6.heap.size := ⟨_, rfl⟩
            have hb : Below W6.heap.size W6 W7 := hWn ▸ (Below.refl _ _).alloc (Nat.le_refl _) _
            have HG : Hid (W7.heap[g]? = some (.cells (blkL prev n).toArray 60 (0, 0))) := Lib.hid (by rw [hWn, hg]; exact heap_alloc_new _ _)
            rw [← hWn, ← hg]
            have HM := Lib.hid (HM.out.mono hb)
            have HO := Lib.hid (HO.out.kept (grownBy_of_below hb none) (own_some _))
            clear hb hWn hg
            try (conv => lhs; change (Act.mk #[_,_,_,_,_,_,_,_,_,_,_,_,_,_,_,_,_,_,_] _))
            refine anyIn_ready (rs := [5]) (by kernel_rfl) (by simp) ?_
            intro i hir
            obtain rfl : i = 5 := by simpa using hir
            clear hir
            obtain ⟨u', W8, hrun, hown, hgr⟩ := append60 W7 63 (B + 4) HM.out.size u k (blkCells (l.take k)) HO.out (by have := HKL.out; have := HL50.out; omega) g prev n HPL.out HG.out
            refine opIn_val (v := u') (w' := W8) rfl (fun _ => trivial) rfl (by intro c h; cases h) (append_run (x := .tmp 12) (y := .tmp 16) rfl rfl rfl hrun) ?_
            have HM := Lib.hid (HM.out.grown HBE.out hgr (fun k hk => (HO.out.lt k hk).1))
            obtain ⟨ua, uc, hus⟩ := own_slice hown
            subst hus
            have HOa := Lib.hid hown
            clear hown hgr hrun HO
            try (conv => lhs; change (Act.mk #[_,_,_,_,_,_,_,_,_,_,_,_,_,_,_,_,_,_,_] _))
            refine anyIn_ready (rs := [6]) (by kernel_rfl) (by simp) ?_
            intro i hir
            obtain rfl : i = 6 := by simpa using hir
            clear hir
            refine opIn_skip rfl (fun _ => trivial) rfl (by intro c h; cases h) (store_run (x := .tmp 3) (y := .tmp 17) (A := ⟨B, 0, none⟩) rfl rfl rfl (store63 (cell_of_row _ _ _ _ _ _ HM.out.u) (frozen_of_row _ _ _ _ _ HM.out.u))) ?_
            have HMn := Lib.hid (HM.out.set HBE.out (.slice ua (k + 1) uc))
            have HOn := Lib.hid (own_low (w' := W8.setCell ⟨B, 0, none⟩ (.slice ua (k + 1) uc)) HOa.out fun i hi => heap_setCell_other _ _ _ _ (show i ≠ B by omega))
            obtain ⟨W9, hWn⟩ : ∃ W', W' = W8.setCell ⟨B, 0, none⟩ (.slice ua (k + 1) uc) := ⟨_, rfl⟩
            rw [← hWn] at HMn HOn
            rw [← hWn]
            clear hWn HM HOa
            try (conv => lhs; change (Act.mk #[_,_,_,_,_,_,_,_,_,_,_,_,_,_,_,_,_,_,_] _))
            refine anyIn_done (by kernel_rfl) ?_
            first | change Exit.then _ _ Exit.normal _ _ | change Exit.inBlock _ _ Exit.normal _ _
            try (conv => lhs; change (Act.mk #[_,_,_,_,_,_,_,_,_,_,_,_,_,_,_,_,_,_,_] _))
            gi_wp2
            refine ⟨HMn.out.l, .inl ⟨rfl, _, HMn.out.put HBE.out _, ?_⟩⟩
            rw [show l.take (k + 1) = l.take k ++ [(prev, n)] by rw [List.take_add_one, HI.out]; rfl, blkCells_snoc]
            exact own_low HOn.out fun i hi => World.putObj_heap_other (by omega)
          · clear hir
            refine opIn_val (v := .slice (some ⟨W6.heap.size, 0, none⟩) 1 1) (w' := W6.alloc (.cells (blkL prev n).toArray 60)) rfl (fun _ => trivial) rfl (by intro c h; cases h) (buildS_run (x := .tmp 15) rfl rfl (run_buildTo 63 60 1 #[(0, .agg (blkL prev n).toArray)] Try.underlying63 (fill60 prev n HPL.out))) ?_
            obtain ⟨W7, hWn⟩ : ∃ W', W' = W6.alloc (.cells (blkL prev n).toArray 60) := ⟨_, rfl⟩
            obtain ⟨g, hg⟩ : ∃ g, g = W6.heap.size := ⟨_, rfl⟩
            have hb : Below W6.heap.size W6 W7 := hWn ▸ (Below.refl _ _).alloc (Nat.le_refl _) _
            have HG : Hid (W7.heap[g]? = some (.cells (blkL prev n).toArray 60 (0, 0))) := Lib.hid (by rw [hWn, hg]; exact heap_alloc_new _ _)
            rw [← hWn, ← hg]
            have HM := Lib.hid (HM.out.mono hb)
            have HO := Lib.hid (HO.out.kept (grownBy_of_below hb none) (own_some _))
            clear hb hWn hg
            try (conv => lhs; change (Act.mk #[_,_,_,_,_,_,_,_,_,_,_,_,_,_,_,_,_,_,_] _))
            refine anyIn_ready (rs := [0]) (by kernel_rfl) (by simp) ?_
            intro i hir
            obtain rfl : i = 0 := by simpa using hir
            clear hir
            refine opIn_val (v := u) (w' := W7) rfl (fun _ => trivial) rfl (by intro c h; cases h) (load_run (x := .tmp 3) (A := ⟨B, 0, none⟩) rfl rfl (load63 (cell_of_row _ _ _ _ _ _ HM.out.u))) ?_
            try (conv => lhs; change (Act.mk #[_,_,_,_,_,_,_,_,_,_,_,_,_,_,_,_,_,_,_] _))
            refine anyIn_ready (rs := [5]) (by kernel_rfl) (by simp) ?_
            intro i hir
            obtain rfl : i = 5 := by simpa using hir
            clear hir
            obtain ⟨u', W8, hrun, hown, hgr⟩ := append60 W7 63 (B + 4) HM.out.size u k (blkCells (l.take k)) HO.out (by have := HKL.out; have := HL50.out; omega) g prev n HPL.out HG.out
            refine opIn_val (v := u') (w' := W8) rfl (fun _ => trivial) rfl (by intro c h; cases h) (append_run (x := .tmp 12) (y := .tmp 16) rfl rfl rfl hrun) ?_
            have HM := Lib.hid (HM.out.grown HBE.out hgr (fun k hk => (HO.out.lt k hk).1))
            obtain ⟨ua, uc, hus⟩ := own_slice hown
            subst hus
            have HOa := Lib.hid hown
            clear hown hgr hrun HO
            try (conv => lhs; change (Act.mk #[_,_,_,_,_,_,_,_,_,_,_,_,_,_,_,_,_,_,_] _))
            refine anyIn_ready (rs := [6]) (by kernel_rfl) (by simp) ?_
            intro i hir
            obtain rfl : i = 6 := by simpa using hir
            clear hir
            refine opIn_skip rfl (fun _ => trivial) rfl (by intro c h; cases h) (store_run (x := .tmp 3) (y := .tmp 17) (A := ⟨B, 0, none⟩) rfl rfl rfl (store63 (cell_of_row _ _ _ _ _ _ HM.out.u) (frozen_of_row _ _ _ _ _ HM.out.u))) ?_
            have HMn := Lib.hid (HM.out.set HBE.out (.slice ua (k + 1) uc))
            have HOn := Lib.hid (own_low (w' := W8.setCell ⟨B, 0, none⟩ (.slice ua (k + 1) uc)) HOa.out fun i hi => heap_setCell_other _ _ _ _ (show i ≠ B by omega))
            obtain ⟨W9, hWn⟩ : ∃ W', W' = W8.setCell ⟨B, 0, none⟩ (.slice ua (k + 1) uc) := ⟨_, rfl⟩
            rw [← hWn] at HMn HOn
            rw [← hWn]
            clear hWn HM HOa
            try (conv => lhs; change (Act.mk #[_,_,_,_,_,_,_,_,_,_,_,_,_,_,_,_,_,_,_] _))
            refine anyIn_done (by kernel_rfl) ?_
            first | change Exit.then _ _ Exit.normal _ _ | change Exit.inBlock _ _ Exit.normal _ _
            try (conv => lhs; change (Act.mk #[_,_,_,_,_,_,_,_,_,_,_,_,_,_,_,_,_,_,_] _))
            gi_wp2
            refine ⟨HMn.out.l, .inl ⟨rfl, _, HMn.out.put HBE.out _, ?_⟩⟩
            rw [show l.take (k + 1) = l.take k ++ [(prev, n)] by rw [List.take_add_one, HI.out]; rfl, blkCells_snoc]
            exact own_low HOn.out fun i hi => World.putObj_heap_other (by omega)
  case fin =>
    rintro e W' ⟨⟨v', rfl⟩, u, hM, hown⟩
    obtain ⟨ua, uc, hus⟩ := own_slice hown
    subst hus
    refine ⟨⟨v', rfl⟩, .ready, none, by simp, hM.l, ?_⟩
    obtain ⟨W6, hW6⟩ : ∃ W6, W6 = W'.putObj (B + 3) (.loop (rec .exhausted none)) := ⟨_, rfl⟩
    have hM6 := hM.put HBE.out (rec .exhausted none)
    rw [← hW6] at hM6
    have hc6 : W6.cell? ⟨B, 0, none⟩ = some (.slice ua l.length uc) := cell_of_row _ _ _ _ _ _ hM6.u
    have HM6 := Lib.hid hM6
    try dsimp only
    rw [← hW6]
    clear hM6 hM hW6 hown
    go_wp2_with fail
    exact leave_mark (.inr rfl) rfl HM6.out.d (results_tmp rfl _ _ _) ⟨⟨_, _, rfl⟩, by have := HM6.out.below; exact ⟨this.os, this.tape, this.output, by simpa using this.size, fun i hi => (World.putObj_heap_other (by have := HBE.out; omega)).trans (this.block i hi)⟩⟩
end Go.Proofs.Ytdecbimklomdjaa
