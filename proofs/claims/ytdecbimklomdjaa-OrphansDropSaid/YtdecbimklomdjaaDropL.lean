/- Rows of hashes, and of blocks: built, and appended to; What Drop asks of a block; What hangs on a hash: the plain part; and the steps that count in a map. -/
import Derived.Test.YtdecbimklomdjaaMapU
import Derived.Test.YtdecbimklomdjaaNone
namespace Go.Proofs.Ytdecbimklomdjaa
open Go Go.RowKit Go.Shelf
theorem info28 : (Try.prog.info? 28).map (fun i => (i.zero.map (fun z => (z.cells.size, z.cells.all (·.oneCell'))), i.size, i.bytes)) = some (some (32, true), 32, 32) := by kernel_rfl
theorem info28_parts : ∃ i z, Try.prog.info? 28 = some i ∧ i.zero = some z ∧ i.size = 32 ∧ i.bytes = 32 ∧ z.cells.size = 32 ∧ z.cells.all (·.oneCell') = true := by
  have h := info28
  cases hi : Try.prog.info? 28 with
  | none => rw [hi] at h; cases h
  | some i =>
    rw [hi] at h
    cases hz : i.zero with
    | none => rw [Option.map_some, hz] at h; cases h
    | some z =>
      rw [Option.map_some, hz] at h
      simp only [Option.map_some, Option.some.injEq, Prod.mk.injEq] at h
      exact ⟨i, z, rfl, hz, h.2.1, h.2.2, h.1.1, h.1.2⟩
theorem info60 : (Try.prog.info? 60).map (fun i => (i.zero.map (fun z => (z.cells.size, z.cells.all (·.oneCell'))), i.size, i.bytes)) = some (some (69, true), 69, 104) := by kernel_rfl
theorem info60_parts : ∃ i z, Try.prog.info? 60 = some i ∧ i.zero = some z ∧ i.size = 69 ∧ i.bytes = 104 ∧ z.cells.size = 69 ∧ z.cells.all (·.oneCell') = true := by
  have h := info60
  cases hi : Try.prog.info? 60 with
  | none => rw [hi] at h; cases h
  | some i =>
    rw [hi] at h
    cases hz : i.zero with
    | none => rw [Option.map_some, hz] at h; cases h
    | some z =>
      rw [Option.map_some, hz] at h
      simp only [Option.map_some, Option.some.injEq, Prod.mk.injEq] at h
      exact ⟨i, z, rfl, hz, h.2.1, h.2.2, h.1.1, h.1.2⟩
set_option maxRecDepth 100000 in
theorem fill28 : ∀ (x : List UInt8), x.length = 32 → Try.prog.builtSlice 28 1 [(0, .agg (bytesA x))] = some (bytesA x)
  | [d0, d1, d2, d3, d4, d5, d6, d7, d8, d9, d10, d11, d12, d13, d14, d15, d16, d17, d18, d19, d20, d21, d22, d23, d24, d25, d26, d27, d28, d29, d30, d31], _ => by kernel_rfl
set_option maxRecDepth 100000 in
theorem fill28_2 : ∀ (x y : List UInt8), x.length = 32 → y.length = 32 → Try.prog.builtSlice 28 2 [(0, .agg (bytesA x)), (1, .agg (bytesA y))] = some (bytesA (x ++ y))
  | [d0, d1, d2, d3, d4, d5, d6, d7, d8, d9, d10, d11, d12, d13, d14, d15, d16, d17, d18, d19, d20, d21, d22, d23, d24, d25, d26, d27, d28, d29, d30, d31], [c0, c1, c2, c3, c4, c5, c6, c7, c8, c9, c10, c11, c12, c13, c14, c15, c16, c17, c18, c19, c20, c21, c22, c23, c24, c25, c26, c27, c28, c29, c30, c31], _, _ => by kernel_rfl
set_option maxRecDepth 100000 in
theorem fill28_3 : ∀ (x y z : List UInt8), x.length = 32 → y.length = 32 → z.length = 32 → Try.prog.builtSlice 28 3 [(0, .agg (bytesA x)), (1, .agg (bytesA y)), (2, .agg (bytesA z))] = some (bytesA (x ++ y ++ z))
  | [d0, d1, d2, d3, d4, d5, d6, d7, d8, d9, d10, d11, d12, d13, d14, d15, d16, d17, d18, d19, d20, d21, d22, d23, d24, d25, d26, d27, d28, d29, d30, d31], [c0, c1, c2, c3, c4, c5, c6, c7, c8, c9, c10, c11, c12, c13, c14, c15, c16, c17, c18, c19, c20, c21, c22, c23, c24, c25, c26, c27, c28, c29, c30, c31], [e0, e1, e2, e3, e4, e5, e6, e7, e8, e9, e10, e11, e12, e13, e14, e15, e16, e17, e18, e19, e20, e21, e22, e23, e24, e25, e26, e27, e28, e29, e30, e31], _, _, _ => by kernel_rfl
set_option maxRecDepth 100000 in
theorem fill60 : ∀ (prev : List UInt8) (n : Nat), prev.length = 32 → Try.prog.builtSlice 60 1 [(0, .agg (blkL prev n).toArray)] = some (blkL prev n).toArray
  | [d0, d1, d2, d3, d4, d5, d6, d7, d8, d9, d10, d11, d12, d13, d14, d15, d16, d17, d18, d19, d20, d21, d22, d23, d24, d25, d26, d27, d28, d29, d30, d31], n, _ => by kernel_rfl
theorem append28 (w : World) (ty : TypeId) (base : Nat) (hbase : base ≤ w.heap.size) (v : Value) (n : Nat) (xs : List Value) (hown : w.ownsRow base 28 32 v n xs) (hn : n ≤ 100) (b : Nat) (x : List UInt8) (hx : x.length = 32) (hb : w.heap[b]? = some (.cells (bytesA x) 28 (0, 0))) :
    ∃ v' w', (Builtin.append_ #[83, 83] ty #[v, .slice (some ⟨b, 0, none⟩) 1 1]).run Try.prog w = .ok v' w' ∧ w'.ownsRow base 28 32 v' (n + 1) (xs ++ x.map V8) ∧ w.grownBy w' v.ownBlock := by
  obtain ⟨i0, z0, hi, hz0, hz1, hz2, hz3, _⟩ := info28_parts
  obtain ⟨v', w', hr, ho, hg, _⟩ := run_append_own (P := Try.prog) w base 83 ty 28 i0 z0 32 32 Try.underlying83 hi hz0 hz1 hz2 hz3 (by decide) v n xs hown ⟨b, 0, none⟩ 1 1 (x.map V8) (by rw [List.length_map, hx]) (fun j u hu => by rw [add_row, cell_of_row _ _ _ _ _ _ hb, bytesA, List.getElem?_toArray]; simpa using hu) (fun u hu => by obtain ⟨y, _, rfl⟩ := List.mem_map.1 hu; rfl) (by unfold maxLen; omega) (by omega) hbase
  exact ⟨v', w', hr, ho, hg⟩
theorem append60 (w : World) (ty : TypeId) (base : Nat) (hbase : base ≤ w.heap.size) (v : Value) (n : Nat) (xs : List Value) (hown : w.ownsRow base 60 69 v n xs) (hn : n ≤ 100) (b : Nat) (prev : List UInt8) (k : Nat) (hp : prev.length = 32) (hb : w.heap[b]? = some (.cells (blkL prev k).toArray 60 (0, 0))) :
    ∃ v' w', (Builtin.append_ #[63, 63] ty #[v, .slice (some ⟨b, 0, none⟩) 1 1]).run Try.prog w = .ok v' w' ∧ w'.ownsRow base 60 69 v' (n + 1) (xs ++ blkL prev k) ∧ w.grownBy w' v.ownBlock := by
  obtain ⟨i0, z0, hi, hz0, hz1, hz2, hz3, _⟩ := info60_parts
  obtain ⟨v', w', hr, ho, hg, _⟩ := run_append_own (P := Try.prog) w base 63 ty 60 i0 z0 69 104 Try.underlying63 hi hz0 hz1 hz2 hz3 (by decide) v n xs hown ⟨b, 0, none⟩ 1 1 (blkL prev k) (by rw [blkL_length _ _ hp]) (fun j u hu => by rw [add_row, cell_of_row _ _ _ _ _ _ hb, List.getElem?_toArray]; exact hu) (one_blk prev k) (by unfold maxLen; omega) (by omega) hbase
  exact ⟨v', w', hr, ho, hg⟩
theorem PoolAt.of_blocks {w w' : World} {p c : Nat} {v : Value} {most : Nat} {l : List (List UInt8 × Nat)} (h : PoolAt w p c v most l) (hp : w'.heap[p]? = w.heap[p]?) (hc : w'.heap[c]? = w.heap[c]?) (hv : ∀ k, v.ownBlock = some k → w'.heap[k]? = w.heap[k]?) : PoolAt w' p c v most l := by
  obtain ⟨s, r, hch⟩ := h.ch
  exact ⟨hp.trans h.row, ⟨s, r, hc.trans hch⟩, own_of_block h.own hv (Nat.le_refl _), h.offp, h.offc, h.lens, h.fits, h.most⟩
/-- Two rows of values of unlike types are not the same block. -/
theorem own_apart {w : World} {b b' s s' n n' : Nat} {e e' : TypeId} {v v' : Value} {xs xs' : List Value} (h : w.ownsRow b e s v n xs) (h' : w.ownsRow b' e' s' v' n' xs') (he : e ≠ e') {k : Nat} (hk : v.ownBlock = some k) : v'.ownBlock ≠ some k := by
  intro hk'
  rcases h.2 with ⟨rfl, _⟩ | ⟨g, cap, cur, rfl, _, hg, _⟩
  · cases hk
  rcases h'.2 with ⟨rfl, _⟩ | ⟨g', cap', cur', rfl, _, hg', _⟩
  · cases hk'
  have e1 : g = k := Option.some.inj hk
  have e2 : g' = k := Option.some.inj hk'
  subst e1
  subst e2
  rw [hg] at hg'
  injection hg' with hg'
  injection hg' with _ h2 _
  exact he h2
theorem own_not {w : World} {b s n : Nat} {e : TypeId} {v : Value} {xs : List Value} (h : w.ownsRow b e s v n xs) {k : Nat} {o : Obj} (hk : w.heap[k]? = some o) (ht : ∀ cs fr, o ≠ .cells cs e fr) : v.ownBlock ≠ some k := by
  intro he
  rcases h.2 with ⟨rfl, _⟩ | ⟨g, cap, cur, rfl, _, hg, _⟩
  · cases he
  · have : g = k := Option.some.inj he
    subst this
    rw [hg] at hk
    cases hk
    exact ht _ _ rfl
/-- A pool is as it was behind an append to another row. -/
theorem PoolAt.grown {w w' : World} {p c : Nat} {v u : Value} {most : Nat} {l : List (List UInt8 × Nat)} {b s n : Nat} {e : TypeId} {xs : List Value} (h : PoolAt w p c v most l) (hu : w.ownsRow b e s u n xs) (he1 : e ≠ 139) (he2 : e ≠ 91) (hg : w.grownBy w' u.ownBlock) : PoolAt w' p c v most l := by
  obtain ⟨s', r, hch⟩ := h.ch
  have hp : u.ownBlock ≠ some p := own_not hu h.row (by rintro cs fr heq; injection heq with _ h2 _; exact he2 h2.symm)
  have hc : u.ownBlock ≠ some c := own_not hu hch (by rintro cs fr heq; cases heq)
  refine h.of_blocks (hg.block p (Array.getElem?_eq_some_iff.1 h.row).1 (fun e => hp e.symm)) (hg.block c (Array.getElem?_eq_some_iff.1 hch).1 (fun e => hc e.symm)) fun k hk => hg.block k (h.own.lt k hk).2 fun e => own_apart h.own hu (fun e => he1 e.symm) hk e.symm
theorem load118 {w : World} {A : Addr} {v : Value} (h : w.cell? A = some v) : (loadVar 118 A).run Try.prog w = .ok v w := by
  simp [loadVar, isAgg, run_underlying Try.underlying118, h]
theorem store118 {w : World} {A : Addr} {u : Value} {m : Option Nat} (h : w.cell? A = some u) (hf : w.frozen? A = false) : (storeVar 118 A (.map m)).run Try.prog w = .ok () (w.setCell A (.map m)) := by
  simp [storeVar, Value.cells, storeCells, Addr.add]
  rw [run_store _ _ _ _ _ (by rfl), h]
  simp [hf]
theorem lookup28_run {o : Oper} {ρ : Operand → Value} {w : World} {x y : Operand} {m : Nat} {kv : List (List UInt8 × Nat)} {k : List UInt8} (ho : o.op = .lookup 118 x y false) (hx : ρ x = .map (some m)) (hy : ρ y = .agg (bytesA k)) (hm : MapAt w m kv) (hk : k.length = 32) : (execOp ρ o).run Try.prog w = .ok (.value (.int .i64 (valAt kv k : Int))) w := by
  simp only [execOp, ho, hx, hy, Sem.run_bind, lookup_run w m kv k hm hk, Sem.run_pure, Result.andThen_ok]
theorem gtr_run {o : Oper} {ρ : Operand → Value} {w : World} {x : Operand} {z : Nat} (ho : o.op = .binOp .gtr 3 x (.const (.int .i64 0)) 3) (hx : ρ x = .int .i64 (z : Int)) (hc : ρ (.const (.int .i64 0)) = .int .i64 0 := by rfl) : (execOp ρ o).run Try.prog w = .ok (.value (.bool (decide (0 < z)))) w := by
  have : decide (0 < z) = decide ((0 : Int) < (z : Int)) := by simp
  rw [this]
  simp only [execOp, ho, hx, hc]
  rfl
theorem eql0_run {o : Oper} {ρ : Operand → Value} {w : World} {x : Operand} {z : Nat} (ho : o.op = .binOp .eql 3 x (.const (.int .i64 0)) 3) (hx : ρ x = .int .i64 (z : Int)) (hc : ρ (.const (.int .i64 0)) = .int .i64 0 := by rfl) : (execOp ρ o).run Try.prog w = .ok (.value (.bool (z == 0))) w := by
  have : (z == 0) = ((z : Int) == (0 : Int)) := by rw [Bool.eq_iff_iff]; simp
  rw [this]
  simp only [execOp, ho, hx, hc]
  rfl
theorem insert28_run {o : Oper} {ρ : Operand → Value} {w : World} {x y : Operand} {m : Nat} {k : List UInt8} (ho : o.op = .insert 118 x y (.const (.int .i64 1))) (hx : ρ x = .map (some m)) (hy : ρ y = .agg (bytesA k)) (hm : MapAt w m []) (hk : k.length = 32) (hc : ρ (.const (.int .i64 1)) = .int .i64 1 := by rfl) : (execOp ρ o).run Try.prog w = .ok .skip (w.putObj m (.map (entriesAt 0 [(k, 1)]).toArray 1)) := by
  simp only [execOp, ho, hx, hy, hc, Sem.run_bind, insert_run w m k hm hk, Sem.run_pure, Result.andThen_ok]
/-- An operation that writes, and yields nothing. -/
theorem wpList_skipped {P : Program} {ops : Array Oper} {rest : List Oper} {o : Oper} {a : Act} {w w' : World} {Q : Exit → Act → World → Prop} (hgd : o.guard = none) (h : (execOp a.eval o).run P w = .ok .skip w') (hK : wpList P ops Q rest (a.put o.dst undef) w') : wpList P ops Q (o :: rest) a w :=
  wpList_plain hgd fun K hK' => by
    unfold Oper.wp
    rw [h]
    exact hK' _ _ hK
end Go.Proofs.Ytdecbimklomdjaa
namespace Go.Proofs.Ytdecbimklomdjaa
open Go Go.RowKit Go.Shelf
/-- What hangs on what has been found, and has not been found. -/
def moreL (kv : List (List UInt8 × Nat)) (b : List UInt8 × Nat) : Bool := decide (0 < valAt kv b.1) && (valAt kv (hh b.1 b.2) == 0)
set_option maxRecDepth 100000 in
theorem drop1_any (m b : Nat) (kv : List (List UInt8 × Nat)) (prev : List UInt8) (n : Nat) (hpl : prev.length = 32) (w : World) (hb : w.heap[b]? = some (.cells #[.map (some m)] 118 (0, 0))) (hm : MapAt w m kv) :
    Calls Try.prog 100 #[.agg (oneL (hh prev n) prev n).toArray, .pointer (some ⟨b, 0, none⟩)] w fun e w' => e = .returned (.bool (moreL kv (prev, n))) ∧ Below w.heap.size w w' := by
  obtain ⟨W1, hW1⟩ : ∃ W1, W1 = w.alloc (.cells (oneL (hh prev n) prev n).toArray 139) := ⟨_, rfl⟩
  obtain ⟨q, hq⟩ : ∃ q, q = w.heap.size := ⟨_, rfl⟩
  have hb1 : Below w.heap.size w W1 := hW1 ▸ (Below.refl _ _).alloc (Nat.le_refl _) _
  have HR : Hid (W1.heap[q]? = some (.cells (oneL (hh prev n) prev n).toArray 139 (0, 0))) := Lib.hid (by rw [hW1, hq]; exact heap_alloc_new _ _)
  have HPL := Lib.hid hpl
  have HB := Lib.hid (block_below' hb1 hb)
  have HM := Lib.hid (hm.below hb1)
  have HB1 := Lib.hid hb1
  have HW1 := Lib.hid hW1
  have HQ := Lib.hid hq
  clear hpl hb hb1 hW1 hq hm
  go_enter Try.func100, Try.ntmps100
  go_upto_region 1 with (fail)
  change Code.wp Try.prog _ _ _ (w.alloc (.cells (oneL (hh prev n) prev n).toArray 139))
  rw [← HW1.out, ← HQ.out]
  refine wp_region_lit ?_
  refine wpList_get rfl 118 (.tmp 1) rfl (A := ⟨b, 0, none⟩) rfl (load118 (cell_of_row _ _ _ _ _ _ HB.out)) ?_
  try (conv => lhs; change (Act.mk #[_,_,_,_,_,_,_,_,_,_,_,_,_,_,_,_,_,_] _))
  refine wpList_one (v := .pointer (some ⟨q, 32, none⟩)) (w' := W1) rfl (by kernel_rfl) ?_
  try (conv => lhs; change (Act.mk #[_,_,_,_,_,_,_,_,_,_,_,_,_,_,_,_,_,_] _))
  refine wpList_one (v := .pointer (some ⟨q, 32, none⟩)) (w' := W1) rfl (by kernel_rfl) ?_
  try (conv => lhs; change (Act.mk #[_,_,_,_,_,_,_,_,_,_,_,_,_,_,_,_,_,_] _))
  refine wpList_one (v := .pointer (some ⟨q, 33, none⟩)) (w' := W1) rfl (by kernel_rfl) ?_
  try (conv => lhs; change (Act.mk #[_,_,_,_,_,_,_,_,_,_,_,_,_,_,_,_,_,_] _))
  refine wpList_get rfl 28 (.tmp 7) rfl (A := ⟨q, 33, none⟩) rfl (one_parent HR.out HPL.out) ?_
  try (conv => lhs; change (Act.mk #[_,_,_,_,_,_,_,_,_,_,_,_,_,_,_,_,_,_] _))
  refine wpList_one (w' := W1) rfl (lookup28_run (x := .tmp 4) (y := .tmp 8) (m := m) (k := prev) rfl rfl rfl HM.out HPL.out) ?_
  try (conv => lhs; change (Act.mk #[_,_,_,_,_,_,_,_,_,_,_,_,_,_,_,_,_,_] _))
  refine wpList_one (w' := W1) rfl (gtr_run (x := .tmp 9) (z := valAt kv prev) rfl rfl) ?_
  try (conv => lhs; change (Act.mk #[_,_,_,_,_,_,_,_,_,_,_,_,_,_,_,_,_,_] _))
  have HD : Hid (moreL kv (prev, n) = (decide (0 < valAt kv prev) && (valAt kv (hh prev n) == 0))) := Lib.hid rfl
  cases hd : decide (0 < valAt kv prev) with
  | false =>
    refine wpList_one (v := .bool false) (w' := W1) rfl (by kernel_rfl) ?_
    try (conv => lhs; change (Act.mk #[_,_,_,_,_,_,_,_,_,_,_,_,_,_,_,_,_,_] _))
    go_wp2_with fail
    go_ret
    exact ⟨by rw [HD.out, hd]; rfl, HB1.out⟩
  | true =>
    refine wpList_one (v := .bool true) (w' := W1) rfl (by kernel_rfl) ?_
    try (conv => lhs; change (Act.mk #[_,_,_,_,_,_,_,_,_,_,_,_,_,_,_,_,_,_] _))
    refine wpList_oneW (w' := W1) (by kernel_rfl) (load_run (x := .tmp 1) rfl rfl (load118 (cell_of_row _ _ _ _ _ _ HB.out))) ?_
    try (conv => lhs; change (Act.mk #[_,_,_,_,_,_,_,_,_,_,_,_,_,_,_,_,_,_] _))
    refine wpList_oneW (v := .pointer (some ⟨q, 0, none⟩)) (w' := W1) (by kernel_rfl) (by kernel_rfl) ?_
    try (conv => lhs; change (Act.mk #[_,_,_,_,_,_,_,_,_,_,_,_,_,_,_,_,_,_] _))
    refine wpList_oneW (w' := W1) (by kernel_rfl) (load_run (x := .tmp 13) rfl rfl (one_hash HR.out)) ?_
    try (conv => lhs; change (Act.mk #[_,_,_,_,_,_,_,_,_,_,_,_,_,_,_,_,_,_] _))
    refine wpList_oneW (w' := W1) (by kernel_rfl) (lookup28_run (x := .tmp 12) (y := .tmp 14) (m := m) (k := hh prev n) rfl rfl rfl HM.out (hh_length _ _)) ?_
    try (conv => lhs; change (Act.mk #[_,_,_,_,_,_,_,_,_,_,_,_,_,_,_,_,_,_] _))
    refine wpList_oneW (w' := W1) (by kernel_rfl) (eql0_run (x := .tmp 15) (z := valAt kv (hh prev n)) rfl rfl) ?_
    try (conv => lhs; change (Act.mk #[_,_,_,_,_,_,_,_,_,_,_,_,_,_,_,_,_,_] _))
    refine wpList_one (v := .bool (valAt kv (hh prev n) == 0)) (w' := W1) rfl (by kernel_rfl) ?_
    try (conv => lhs; change (Act.mk #[_,_,_,_,_,_,_,_,_,_,_,_,_,_,_,_,_,_] _))
    go_wp2_with fail
    go_ret
    exact ⟨by rw [HD.out, hd, Bool.true_and]; rfl, HB1.out⟩
end Go.Proofs.Ytdecbimklomdjaa
namespace Go.Proofs.Ytdecbimklomdjaa
open Go Go.RowKit Go.Shelf
def hashL (l : List (List UInt8 × Nat)) : List (List UInt8) := l.map fun b => hh b.1 b.2
def hashCells (hs : List (List UInt8)) : List Value := hs.flatMap (·.map V8)
/-- What hangs on a hash, in a list of blocks. -/
structure Hangs (S : List UInt8 → Bool) (x : List UInt8) (l : List (List UInt8 × Nat)) : Prop where
  start : S x = true
  next : ∀ b ∈ l, S b.1 = true → S (hh b.1 b.2) = true
  only : ∀ y, S y = true → y = x ∨ ∃ b ∈ l, S b.1 = true ∧ hh b.1 b.2 = y
/-- .. as a map of counts, on the way. -/
structure HangM (kv : List (List UInt8 × Nat)) (x : List UInt8) (l : List (List UInt8 × Nat)) : Prop where
  start : 0 < valAt kv x
  only : ∀ y, 0 < valAt kv y → y = x ∨ ∃ b ∈ l, 0 < valAt kv b.1 ∧ hh b.1 b.2 = y
  keys : ∀ q ∈ kv, q.1 ∈ x :: hashL l
  pos : ∀ q ∈ kv, 0 < q.2
theorem valAt_cons (k : List UInt8) (n : Nat) (kv : List (List UInt8 × Nat)) (x : List UInt8) : valAt ((k, n) :: kv) x = if k = x then n else valAt kv x := by
  unfold valAt
  by_cases h : k = x
  · rw [List.find?_cons_of_pos (by simpa using h), if_pos h]; rfl
  · rw [List.find?_cons_of_neg (by simpa using h), if_neg h]
theorem valAt_bump : ∀ (kv : List (List UInt8 × Nat)) (y z : List UInt8), valAt (bumpL kv y) z = if y = z then valAt kv z + 1 else valAt kv z
  | [], y, z => by
    rw [bumpL, valAt_cons]
    split <;> simp_all [valAt]
  | (k, n) :: kv, y, z => by
    rw [bumpL]
    split
    · rename_i h
      subst h
      rw [valAt_cons, valAt_cons]
      split <;> simp_all
    · rename_i h
      rw [valAt_cons, valAt_cons, valAt_bump kv y z]
      split <;> rename_i h2
      · rw [if_neg (fun e => h (h2.trans e.symm))]
      · rfl
theorem valAt_le_bump (kv : List (List UInt8 × Nat)) (y z : List UInt8) : valAt kv z ≤ valAt (bumpL kv y) z := by
  rw [valAt_bump]; split <;> omega
theorem valAt_zero {kv : List (List UInt8 × Nat)} (hn : (kv.map (·.1)).Nodup) (hp : ∀ q ∈ kv, 0 < q.2) {y : List UInt8} (h : valAt kv y = 0) : ∀ q ∈ kv, q.1 ≠ y := fun q hq e => by
  have := valAt_mem kv q hq hn
  have := hp q hq
  rw [← e] at h
  omega
theorem hang_start (x : List UInt8) (l : List (List UInt8 × Nat)) : HangM [(x, 1)] x l := by
  refine ⟨by rw [valAt_cons, if_pos rfl]; omega, fun y hy => ?_, by simp, by simp⟩
  rw [valAt_cons] at hy
  split at hy
  · exact .inl (by assumption : x = y).symm
  · simp [valAt] at hy
theorem hang_bump {kv : List (List UInt8 × Nat)} {x : List UInt8} {l : List (List UInt8 × Nat)} (h : HangM kv x l) (hn : (kv.map (·.1)).Nodup) {b : List UInt8 × Nat} (hb : b ∈ l) (hm : moreL kv b = true) : HangM (bumpL kv (hh b.1 b.2)) x l ∧ bumpL kv (hh b.1 b.2) = kv ++ [(hh b.1 b.2, 1)] := by
  unfold moreL at hm
  rw [Bool.and_eq_true, decide_eq_true_iff] at hm
  have h0 : valAt kv (hh b.1 b.2) = 0 := by simpa using hm.2
  have he := bump_new kv (hh b.1 b.2) (valAt_zero hn h.pos h0)
  have hmem : hh b.1 b.2 ∈ hashL l := List.mem_map.2 ⟨b, hb, rfl⟩
  refine ⟨⟨?_, ?_, ?_, ?_⟩, he⟩
  · exact Nat.lt_of_lt_of_le h.start (valAt_le_bump _ _ _)
  · intro y hy
    rw [valAt_bump] at hy
    split at hy
    · rename_i e
      exact .inr ⟨b, hb, Nat.lt_of_lt_of_le hm.1 (valAt_le_bump _ _ _), e⟩
    · rcases h.only y hy with h1 | ⟨b', hb', h1, h2⟩
      · exact .inl h1
      · exact .inr ⟨b', hb', Nat.lt_of_lt_of_le h1 (valAt_le_bump _ _ _), h2⟩
  · rw [he]; intro q hq
    rcases List.mem_append.1 hq with hq | hq
    · exact h.keys q hq
    · have : q = (hh b.1 b.2, 1) := by simpa using hq
      rw [this]; exact List.mem_cons_of_mem _ hmem
  · rw [he]; intro q hq
    rcases List.mem_append.1 hq with hq | hq
    · exact h.pos q hq
    · have : q = (hh b.1 b.2, 1) := by simpa using hq
      rw [this]; exact Nat.one_pos
theorem hang_done {kv : List (List UInt8 × Nat)} {x : List UInt8} {l : List (List UInt8 × Nat)} (h : HangM kv x l) (hd : ∀ b ∈ l, moreL kv b = false) : Hangs (fun y => decide (0 < valAt kv y)) x l := by
  refine ⟨by simpa using h.start, fun b hb hs => ?_, fun y hy => ?_⟩
  · have := hd b hb
    unfold moreL at this
    rw [hs, Bool.true_and] at this
    have h2 : valAt kv (hh b.1 b.2) ≠ 0 := by simpa using this
    simp; omega
  · rcases h.only y (by simpa using hy) with h1 | ⟨b, hb, h1, h2⟩
    · exact .inl h1
    · exact .inr ⟨b, hb, by simpa using h1, h2⟩
theorem nodup_len : ∀ (a b : List (List UInt8)), a.Nodup → (∀ y ∈ a, y ∈ b) → a.length ≤ b.length
  | [], _, _, _ => Nat.zero_le _
  | y :: a, b, h, hs => by
    rw [List.nodup_cons] at h
    have hy := hs y (by simp)
    have := nodup_len a (b.erase y) h.2 fun z hz => (List.mem_erase_of_ne (fun e : z = y => h.1 (e ▸ hz))).2 (hs z (by simp [hz]))
    rw [List.length_erase_of_mem hy] at this
    have := List.length_pos_of_mem hy
    rw [List.length_cons]
    omega
theorem hang_len {kv : List (List UInt8 × Nat)} {x : List UInt8} {l : List (List UInt8 × Nat)} (h : HangM kv x l) (hn : (kv.map (·.1)).Nodup) : kv.length ≤ l.length + 1 := by
  have := nodup_len (kv.map (·.1)) (x :: hashL l) hn fun y hy => by
    obtain ⟨q, hq, rfl⟩ := List.mem_map.1 hy
    exact h.keys q hq
  simpa [hashL] using this
theorem firstAt_hitD {d : List UInt8 × Nat → Bool} {l : List (List UInt8 × Nat)} (h : ¬ firstAt d l < 0) : ∃ (i : Nat) (prev : List UInt8) (n : Nat), firstAt d l = (i : Int) ∧ l[i]? = some (prev, n) ∧ d (prev, n) = true := by
  unfold firstAt at h ⊢
  cases hf : l.findIdx? d with
  | none => rw [hf] at h; simp at h
  | some j =>
    obtain ⟨h1, h2, _⟩ := List.findIdx?_eq_some_iff_getElem.1 hf
    exact ⟨j, l[j].1, l[j].2, rfl, List.getElem?_eq_getElem h1, h2⟩
theorem firstAt_missD {d : List UInt8 × Nat → Bool} {l : List (List UInt8 × Nat)} (h : firstAt d l < 0) : ∀ b ∈ l, d b = false := by
  unfold firstAt at h
  cases hf : l.findIdx? d with
  | none => exact List.findIdx?_eq_none_iff.1 hf
  | some j => rw [hf] at h; simp at h; omega
/-- How many hashes a map has. -/
def sizeM (w : World) (m : Nat) : Nat := match w.heap[m]? with | some (.map es _) => es.size | _ => 0
theorem sizeM_at {w : World} {m : Nat} {kv : List (List UInt8 × Nat)} (h : MapAt w m kv) : sizeM w m = kv.length := by
  unfold sizeM; rw [h.1]; simp [entries_length]
theorem step_skip {P : Program} {ops : Array Oper} {o : Oper} {a : Act} {w w' : World} {K : Act → World → Prop} {Q : Exit → Act → World → Prop} {E : Prop} (hg : o.guard = none)
    (h : (execOp a.eval o).run P w = .ok .skip w') (hK : K (a.put o.dst undef) w') : if Region.wanted o (yielded ops a.tmps) = true then Oper.wp P o a w K Q else E := by
  rw [if_pos (show Region.wanted o (yielded ops a.tmps) = true by simp [Region.wanted, hg])]
  unfold Oper.wp
  rw [h]
  exact hK
theorem entry28_run {o : Oper} {ρ : Operand → Value} {w w' : World} {x y : Operand} {m : Nat} {k : List UInt8} {r : Value} (ho : o.op = .mapEntry 118 x y) (hx : ρ x = .map (some m)) (hy : ρ y = .agg (bytesA k)) (h : (Instr.mapEntry 118 (.map (some m)) (.agg (bytesA k))).run Try.prog w = .ok r w') : (execOp ρ o).run Try.prog w = .ok (.value r) w' := by
  simp only [execOp, ho, hx, hy, Sem.run_bind, h, Sem.run_pure, Result.andThen_ok]
theorem estore28_run {o : Oper} {ρ : Operand → Value} {w w' : World} {x y z : Operand} {m i n : Nat} (ho : o.op = .entryStore 118 x y z) (hx : ρ x = .map (some m)) (hy : ρ y = .int .i64 (i : Int)) (hz : ρ z = .int .i64 (n : Int)) (h : (Instr.entryStore 118 (.map (some m)) (.int .i64 (i : Int)) (.int .i64 (n : Int))).run Try.prog w = .ok () w') : (execOp ρ o).run Try.prog w = .ok .skip w' := by
  simp only [execOp, ho, hx, hy, hz, Sem.run_bind, h, Sem.run_pure, Result.andThen_ok]
theorem valAt_le {kv : List (List UInt8 × Nat)} {N : Nat} (h : ∀ q ∈ kv, q.2 ≤ N) (y : List UInt8) : valAt kv y ≤ N := by
  unfold valAt
  cases hf : kv.find? (·.1 == y) with
  | none => exact Nat.zero_le _
  | some q => exact h q (List.mem_of_find?_eq_some hf)
theorem hashCells_length {hs : List (List UInt8)} (h : ∀ y ∈ hs, y.length = 32) : (hashCells hs).length = hs.length * 32 := by
  induction hs with
  | nil => rfl
  | cons y ys ih =>
    have := ih fun z hz => h z (by simp [hz])
    unfold hashCells at this ⊢
    rw [List.flatMap_cons, List.length_append, this, List.length_map, h y (by simp), List.length_cons]
    omega
theorem hashCells_snoc (hs : List (List UInt8)) (y : List UInt8) : hashCells (hs ++ [y]) = hashCells hs ++ y.map V8 := by
  unfold hashCells; rw [List.flatMap_append]; simp
theorem hashL_length (l : List (List UInt8 × Nat)) : (hashL l).length = l.length := by simp [hashL]
theorem hashL_len32 (l : List (List UInt8 × Nat)) : ∀ y ∈ hashL l, y.length = 32 := fun y hy => by
  obtain ⟨b, _, rfl⟩ := List.mem_map.1 hy
  exact hh_length _ _
theorem valAt_enter (kv : List (List UInt8 × Nat)) (y z : List UInt8) : valAt (enterL kv y) z = valAt kv z := by
  unfold enterL
  split
  · rfl
  · unfold valAt
    rw [List.find?_append]
    cases hf : kv.find? (·.1 == z) with
    | some q => rfl
    | none =>
      by_cases h : y = z
      · subst h; simp
      · simp [h]
theorem PoolAt.putMap {w : World} {p c : Nat} {v : Value} {most : Nat} {l : List (List UInt8 × Nat)} (h : PoolAt w p c v most l) {m : Nat} {es : Array MapEntry} {k : Nat} (hm : w.heap[m]? = some (.map es k)) (o : Obj) : PoolAt (w.putObj m o) p c v most l := by
  obtain ⟨s, r, hch⟩ := h.ch
  refine h.of_blocks (World.putObj_heap_other ?_) (World.putObj_heap_other ?_) fun g hg => World.putObj_heap_other ?_
  · rintro rfl; have := h.row; rw [hm] at this; cases this
  · rintro rfl; rw [hm] at hch; cases hch
  · rintro rfl; exact own_not h.own hm (by rintro cs fr heq; cases heq) hg
theorem below_put {w W : World} {N m : Nat} (h : Below N w W) (hm : N ≤ m) (o : Obj) : Below N w (W.putObj m o) :=
  ⟨h.os, h.tape, h.output, by simpa using h.size, fun i hi => (World.putObj_heap_other (by omega)).trans (h.block i hi)⟩
/-- What an entered hash leaves. -/
theorem MapAt.entered {w : World} {m : Nat} {kv : List (List UInt8 × Nat)} {y : List UInt8} (h : MapAt w m kv) (h1 : ∀ p ∈ enterL kv y, p.1.length = 32) (h2 : ((enterL kv y).map (·.1)).Nodup) : MapAt (w.putObj m (.map (entriesAt 0 (enterL kv y)).toArray (enterL kv y).length)) m (enterL kv y) := h.put _ h1 h2
theorem bump_keys (kv : List (List UInt8 × Nat)) (y : List UInt8) : (bumpL kv y).map (·.1) = (enterL kv y).map (·.1) := by
  induction kv with
  | nil => rfl
  | cons q kv ih =>
    obtain ⟨k, n⟩ := q
    rw [bumpL]
    unfold enterL at ih ⊢
    by_cases h : k = y
    · rw [if_pos h]; simp [h]
    · rw [if_neg h, List.map_cons, ih]
      have : ((k, n) :: kv).any (·.1 == y) = kv.any (·.1 == y) := by simp [h]
      rw [this]
      split <;> simp
theorem MapAt.bumped {w : World} {m i : Nat} {kv : List (List UInt8 × Nat)} {y : List UInt8} (h : MapAt w m (enterL kv y)) (he : (enterL kv y).set i (y, valAt kv y + 1) = bumpL kv y) : MapAt (w.putObj m (.map (entriesAt 0 ((enterL kv y).set i (y, valAt kv y + 1))).toArray ((enterL kv y).set i (y, valAt kv y + 1)).length)) m (bumpL kv y) := by
  have hk := bump_keys kv y
  rw [he]
  refine h.put _ (fun p hp => ?_) (by rw [hk]; exact h.2.2)
  have : p.1 ∈ (enterL kv y).map (·.1) := hk ▸ List.mem_map_of_mem hp
  obtain ⟨q, hq, e⟩ := List.mem_map.1 this
  rw [← e]; exact h.2.1 q hq
theorem filt_take {α : Type} (P : α → Bool) (l : List α) (j : Nat) (b : α) (h : l[j]? = some b) : (l.take (j + 1)).filter P = (l.take j).filter P ++ (if P b then [b] else []) := by
  rw [List.take_add_one, h, List.filter_append]
  cases hp : P b <;> simp [hp]
theorem filt_len {α : Type} (P : α → Bool) : ∀ l : List α, (l.filter P).length + (l.filter fun b => !P b).length = l.length
  | [] => rfl
  | b :: l => by
    have := filt_len P l
    cases hp : P b <;> simp [hp] <;> omega
theorem drop_at {α : Type} {l : List α} {j : Nat} {b : α} (h : l[j]? = some b) : l.drop j = b :: l.drop (j + 1) := by
  have h1 := (List.getElem?_eq_some_iff.1 h).1
  have h2 := (List.getElem?_eq_some_iff.1 h).2
  rw [List.drop_eq_getElem_cons h1, h2]
theorem at_mid {α : Type} (A : List α) {l : List α} {j : Nat} {b : α} (h : l[j]? = some b) : (A ++ l.drop j)[A.length]? = some b ∧ (A ++ l.drop j).eraseIdx A.length = A ++ l.drop (j + 1) := by
  rw [drop_at h]
  constructor
  · rw [List.getElem?_append_right (Nat.le_refl _), Nat.sub_self]; rfl
  · rw [List.eraseIdx_append_of_length_le (Nat.le_refl _), Nat.sub_self]; rfl
theorem Moved.grown {p c : Nat} {v v' : Value} {w w' w'' : World} {u : Option Nat} (h : Moved p c v w v' w') (hg : w'.grownBy w'' u) (hu : ∀ k, u = some k → w.heap.size ≤ k) : Moved p c v w v' w'' :=
  ⟨Nat.le_trans h.size hg.size, fun i h1 h2 h3 h4 => (hg.block i (Nat.lt_of_lt_of_le h1 h.size) (fun e => by have := hu i e.symm; omega)).trans (h.block i h1 h2 h3 h4), h.row, hg.os.trans h.kept.1, hg.output.trans h.kept.2⟩
/-- A row of hashes stays, behind a step on a pool. -/
theorem own_moved {w w' : World} {p c : Nat} {v v' u : Value} {most : Nat} {l : List (List UInt8 × Nat)} {b s n : Nat} {e : TypeId} {xs : List Value} (hu : w.ownsRow b e s u n xs) (hp : PoolAt w p c v most l) (he1 : e ≠ 139) (he2 : e ≠ 91) (hm : Moved p c v w v' w') : w'.ownsRow b e s u n xs := by
  obtain ⟨s', r, hch⟩ := hp.ch
  refine own_of_block hu (fun k hk => hm.block k (hu.lt k hk).2 ?_ ?_ ?_) (Nat.le_refl _)
  · rintro rfl; exact own_not hu hp.row (by rintro cs fr heq; injection heq with _ h2 _; exact he2 h2.symm) hk
  · rintro rfl; exact own_not hu hch (by rintro cs fr heq; cases heq) hk
  · intro hk'; exact own_apart hp.own hu (fun e => he1 e.symm) hk' hk
theorem one_parent_mid {w : World} {g o : Nat} {prev : List UInt8} {n : Nat} (h : w.rangeAt g o (oneL (hh prev n) prev n)) (hp : prev.length = 32) : (loadVar 28 ⟨g, o + 33, none⟩).run Try.prog w = .ok (.agg (bytesA prev)) w :=
  run_loadVar_mid w g (o + 33) 28 (prev.map V8) _ (fun j u hj => by
    rw [Nat.add_assoc]
    refine h (33 + j) u ?_
    have := part_mid ((hh prev n).map V8 ++ [.int .u32 0]) (prev.map V8) ((Sha.zeros 32).map V8 ++ [.int .u32 0, .int .u32 0, .int .u32 (n : Int)] ++ [.slice none 0 0]) 33 j u (by simp [hh_length]) hj
    simpa [oneL, blkL, hdrL] using this) Try.underlying28 rfl (by rw [List.length_map, hp]; kernel_rfl)
theorem lss2_run {o : Oper} {ρ : Operand → Value} {w : World} {x y : Operand} {a b : Nat} (ho : o.op = .binOp .lss 3 x y 3) (hx : ρ x = .int .i64 (a : Int)) (hy : ρ y = .int .i64 (b : Int)) : (execOp ρ o).run Try.prog w = .ok (.value (.bool (decide (a < b)))) w := by
  have : decide (a < b) = decide ((a : Int) < (b : Int)) := by rw [Bool.eq_iff_iff]; simp
  rw [this]
  simp only [execOp, ho, hx, hy]
  rfl
/-- The length of a slice. -/
def lenV : Value → Nat
  | .slice _ n _ => n
  | _ => 0
theorem own_len {w : World} {base : Nat} {e : TypeId} {s n : Nat} {v : Value} {xs : List Value} (h : w.ownsRow base e s v n xs) : ∃ a c, v = .slice a n c := own_slice h
end Go.Proofs.Ytdecbimklomdjaa
