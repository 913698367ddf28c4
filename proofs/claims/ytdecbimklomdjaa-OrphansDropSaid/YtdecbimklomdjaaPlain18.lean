/- Single operations of the laws on pools; purserlaw27's filled: a pool of blocks, each behind one of a few hashes, or an earlier block; The plain law of OrphansDrop: what is dropped hangs on the hash, and nothing else does. -/
import Derived.Test.YtdecbimklomdjaaAll
namespace Go.Proofs.Ytdecbimklomdjaa
open Go Go.RowKit Go.Shelf
theorem BytesAt.left {w w' : World} {v : Value} {l : List UInt8} (h : BytesAt w v l) (hl : Left w w') : BytesAt w' v l := by
  rcases h with h | ⟨b, o, c, hv, h1, h2, h3, h4⟩
  · exact .inl h
  · exact .inr ⟨b, o, c, hv, h1, h2, Nat.lt_of_lt_of_le h3 hl.size, fun j u hu => (World.cell?_of_block (hl.block b h3)).trans (h4 j u hu)⟩
theorem BytesAt.slice {w : World} {v : Value} {l : List UInt8} (h : BytesAt w v l) : ∃ a c, v = .slice a l.length c := by
  rcases h with ⟨rfl, rfl⟩ | ⟨b, o, c, rfl, _⟩
  · exact ⟨_, _, rfl⟩
  · exact ⟨_, _, rfl⟩
/-- One of the bytes that came in. -/
theorem byte_at {w : World} {a : Option Addr} {c : Nat} {l : List UInt8} (h : BytesAt w (.slice a l.length c) l) {i : Nat} {x : UInt8} (hi : l[i]? = some x) :
    ∃ A, (∀ w', (Instr.indexAt 25 (.slice a l.length c) (.int .i64 (i : Int))).run Try.prog w' = .ok (.pointer (some A)) w') ∧ (loadVar 5 A).run Try.prog w = .ok (.int .u8 (x.toNat : Int)) w := by
  have hlt := (List.getElem?_eq_some_iff.1 hi).1
  rcases h with ⟨h, rfl⟩ | ⟨b, o, c', hv, h1, h2, h3, h4⟩
  · simp at hlt
  · injection hv with hv1 hv2 hv3
    subst hv1
    have hc : w.cell? ⟨b, o + i, none⟩ = some (.int .u8 (x.toNat : Int)) := by
      have := h4 i (V8 x) (by simp [hi])
      simpa [V8, b8] using this
    refine ⟨⟨b, o + i, none⟩, fun w' => ?_, ?_⟩
    · have h0 : (0 : Int) ≤ (i : Int) ∧ (i : Int) < (l.length : Int) := by omega
      simp [Instr.indexAt, asIntOf, run_underlying Try.underlying25, hlt, Addr.add]
    · simp [loadVar, isAgg, run_underlying Try.underlying5, hc]
theorem len25 (w : World) (a : Option Addr) (n c : Nat) (t : TypeId) : (Builtin.len_ #[25] t #[.slice a n c]).run Try.prog w = .ok (.int .i64 (n : Int)) w := by
  simp [Builtin.len_, run_underlying Try.underlying25, goInt]
theorem conv53_run {o : Oper} {ρ : Operand → Value} {w : World} {x : Operand} {n : Nat} (ho : o.op = .convert 5 3 x) (hx : ρ x = .int .u8 (n : Int)) (hn : n < 256) : (execOp ρ o).run Try.prog w = .ok (.value (.int .i64 (n : Int))) w := by
  have : IntKind.i64.wrap (n : Int) = (n : Int) := by rw [IntKind.wrap_i64]; omega
  simp [execOp, ho, hx, convert, run_underlying Try.underlying5, run_underlying Try.underlying3, Conv.intToInt, this]
theorem wrapU32 (n : Nat) (h : n < 4294967296) : IntKind.u32.wrap (n : Int) = (n : Int) := by
  have : IntKind.u32.wrap (n : Int) = (n : Int) % 4294967296 := by first | rfl | simp [IntKind.wrap, IntKind.signed, IntKind.bits]
  rw [this]; omega
theorem conv355_run {o : Oper} {ρ : Operand → Value} {w : World} {x : Operand} {n : Nat} (ho : o.op = .convert 3 55 x) (hx : ρ x = .int .i64 (n : Int)) (hn : n < 4294967296) : (execOp ρ o).run Try.prog w = .ok (.value (.int .u32 (n : Int))) w := by
  simp [execOp, ho, hx, convert, run_underlying Try.underlying55, run_underlying Try.underlying3, Conv.intToInt, wrapU32 n hn]
theorem rem_run {o : Oper} {ρ : Operand → Value} {w : World} {x y : Operand} {a b : Nat} (ho : o.op = .binOp .rem 3 x y 3) (hx : ρ x = .int .i64 (a : Int)) (hy : ρ y = .int .i64 (b : Int)) (hb : 0 < b) (ha : a < 1000) : (execOp ρ o).run Try.prog w = .ok (.value (.int .i64 ((a % b : Nat) : Int))) w := by
  have h4 : ¬ b = 0 := by omega
  simp [execOp, ho, hx, hy, binOp, eqGuard, h4, go_sem]
  exact Int.tmod_eq_emod_of_nonneg (by omega)
theorem add2_run {o : Oper} {ρ : Operand → Value} {w : World} {x y : Operand} {a b : Nat} (ho : o.op = .binOp .add 3 x y 3) (hx : ρ x = .int .i64 (a : Int)) (hy : ρ y = .int .i64 (b : Int)) (ha : a ≤ 1000) (hb : b ≤ 1000) : (execOp ρ o).run Try.prog w = .ok (.value (.int .i64 ((a + b : Nat) : Int))) w := by
  have : IntKind.i64.wrap ((a : Int) + (b : Int)) = ((a + b : Nat) : Int) := by rw [IntKind.wrap_i64]; omega
  simp only [execOp, ho, hx, hy]
  rw [← this]
  rfl
theorem sub50_run {o : Oper} {ρ : Operand → Value} {w : World} {y : Operand} {b : Nat} (ho : o.op = .binOp .sub 3 (.const (.int .i64 50)) y 3) (hy : ρ y = .int .i64 (b : Int)) (hb : b ≤ 50) (hc : ρ (.const (.int .i64 50)) = .int .i64 50 := by rfl) : (execOp ρ o).run Try.prog w = .ok (.value (.int .i64 ((50 : Nat) - (b : Int)))) w := by
  have : IntKind.i64.wrap ((50 : Int) - (b : Int)) = ((50 : Nat) - (b : Int) : Int) := by rw [IntKind.wrap_i64]; omega
  simp only [execOp, ho, hc, hy]
  rw [← this]
  rfl
theorem neqI_run {o : Oper} {ρ : Operand → Value} {w : World} {x y : Operand} {a b : Int} (ho : o.op = .binOp .neq 3 x y 3) (hx : ρ x = .int .i64 a) (hy : ρ y = .int .i64 b) : (execOp ρ o).run Try.prog w = .ok (.value (.bool (a != b))) w := by
  simp only [execOp, ho, hx, hy]
  rfl
theorem eqlI_run {o : Oper} {ρ : Operand → Value} {w : World} {x y : Operand} {a b : Int} (ho : o.op = .binOp .eql 3 x y 3) (hx : ρ x = .int .i64 a) (hy : ρ y = .int .i64 b) : (execOp ρ o).run Try.prog w = .ok (.value (.bool (a == b))) w := by
  simp only [execOp, ho, hx, hy]
  rfl
theorem geq2_run {o : Oper} {ρ : Operand → Value} {w : World} {x y : Operand} {a b : Nat} (ho : o.op = .binOp .geq 3 x y 3) (hx : ρ x = .int .i64 (a : Int)) (hy : ρ y = .int .i64 (b : Int)) : (execOp ρ o).run Try.prog w = .ok (.value (.bool (decide (b ≤ a)))) w := by
  have : decide (b ≤ a) = decide ((b : Int) ≤ (a : Int)) := by rw [Bool.eq_iff_iff]; simp
  rw [this]
  simp only [execOp, ho, hx, hy]
  rfl
theorem gtr50_run {o : Oper} {ρ : Operand → Value} {w : World} {x : Operand} {z : Nat} (ho : o.op = .binOp .gtr 3 x (.const (.int .i64 50)) 3) (hx : ρ x = .int .i64 (z : Int)) (hc : ρ (.const (.int .i64 50)) = .int .i64 50 := by rfl) : (execOp ρ o).run Try.prog w = .ok (.value (.bool (decide (50 < z)))) w := by
  have : decide (50 < z) = decide ((50 : Int) < (z : Int)) := by rw [Bool.eq_iff_iff]; simp; omega
  rw [this]
  simp only [execOp, ho, hx, hc]
  rfl
theorem index63 (w : World) (g n cap i : Nat) (hi : i < n) : (Instr.indexAt 63 (.slice (some ⟨g, 0, none⟩) n cap) (.int .i64 (i : Int))).run Try.prog w = .ok (.pointer (some ⟨g, i * 69, none⟩)) w := by
  have h0 : (0 : Int) ≤ (i : Int) ∧ (i : Int) < (n : Int) := by omega
  simp [Instr.indexAt, asIntOf, run_underlying Try.underlying63, hi, add_row]
theorem blkCells_at : ∀ (l : List (List UInt8 × Nat)) (i : Nat) (prev : List UInt8) (n : Nat), Good l → l[i]? = some (prev, n) → ∀ j u, (blkL prev n)[j]? = some u → (blkCells l)[i * 69 + j]? = some u
  | [], _, _, _, _, h, _, _, _ => by simp at h
  | b :: l, 0, prev, n, hg, h, j, u, hu => by
    have : b = (prev, n) := by simpa using h
    subst this
    rw [Nat.zero_mul, Nat.zero_add, blkCells, List.flatMap_cons, List.getElem?_append_left (List.getElem?_eq_some_iff.1 hu).1]; exact hu
  | b :: l, i + 1, prev, n, hg, h, j, u, hu => by
    have hb := (hg b (by simp)).1
    have hbl := blkL_length b.1 b.2 hb
    rw [blkCells, List.flatMap_cons, List.getElem?_append_right (by rw [hbl]; omega), hbl, show (i + 1) * 69 + j - 69 = i * 69 + j by omega]
    exact blkCells_at l i prev n (fun z hz => hg z (by simp [hz])) (by simpa using h) j u hu
/-- One block of a row of blocks. -/
theorem row_blk {w : World} {b g n c i : Nat} {l : List (List UInt8 × Nat)} {prev : List UInt8} {k : Nat} (h : w.ownsRow b 60 69 (.slice (some ⟨g, 0, none⟩) n c) n (blkCells l)) (hg : Good l) (hi : l[i]? = some (prev, k)) : (loadVar 60 ⟨g, i * 69, none⟩).run Try.prog w = .ok (.agg (blkL prev k).toArray) w :=
  run_loadVar_mid w g (i * 69) 60 (blkL prev k) _ (fun j u hj => by
    have := h.cells (g := g) rfl (i * 69 + j) u (blkCells_at l i prev k hg hi j u hj)
    rwa [add_row] at this) Try.underlying60 rfl ((size60 prev k (hg _ (List.mem_of_getElem? hi)).1).trans (by rw [List.size_toArray]))
theorem grown_row {w w' : World} {u : Value} {b s n k : Nat} {e t : TypeId} {xs : List Value} {cs : Array Value} {fr : Nat × Nat} (hu : w.ownsRow b e s u n xs) (hg : w.grownBy w' u.ownBlock) (hk : w.heap[k]? = some (.cells cs t fr)) (ht : t ≠ e) : w'.heap[k]? = some (.cells cs t fr) :=
  (hg.block k (Array.getElem?_eq_some_iff.1 hk).1 (fun h => own_not hu hk (by rintro cs' fr' heq; injection heq with _ h2 _; exact ht h2) h.symm)).trans hk
theorem grown_at {w w' : World} {u : Value} {k : Nat} {o : Obj} (hg : w.grownBy w' u.ownBlock) (hk : w.heap[k]? = some o) (hne : u.ownBlock ≠ some k) : w'.heap[k]? = some o :=
  (hg.block k (Array.getElem?_eq_some_iff.1 hk).1 (fun h => hne h.symm)).trans hk
theorem own_grown {w w' : World} {b s n b' s' n' : Nat} {e e' : TypeId} {v u : Value} {xs xs' : List Value} (hv : w.ownsRow b e s v n xs) (hu : w.ownsRow b' e' s' u n' xs') (hg : w.grownBy w' u.ownBlock) (he : e ≠ e') : w'.ownsRow b e s v n xs :=
  own_of_block hv (fun k hk => hg.block k (hv.lt k hk).2 (fun h => own_apart hv hu he hk h.symm)) (Nat.le_refl _)
theorem Left.grown {w W W' : World} {u : Option Nat} (h : Left w W) (hg : W.grownBy W' u) (hu : ∀ k, u = some k → w.heap.size ≤ k) : Left w W' :=
  ⟨hg.os.trans h.os, hg.output.trans h.output, Nat.le_trans h.size hg.size, fun i hi => (hg.block i (by have := h.size; omega) (fun e => by have := hu i e.symm; omega)).trans (h.block i hi)⟩
theorem Since.same {w : World} {p c : Nat} {v : Value} (h : Since w p c v) {w0 : World} (hs : w0.heap.size ≤ w.heap.size) : Since w0 p c v := ⟨Nat.le_trans hs h.p, Nat.le_trans hs h.c, fun k hk => Nat.le_trans hs (h.v k hk)⟩
end Go.Proofs.Ytdecbimklomdjaa
namespace Go.Proofs.Ytdecbimklomdjaa
open Go Go.RowKit Go.Shelf
theorem buildS3_run {P : Program} {o : Oper} {ρ : Operand → Value} {w w' : World} {t : TypeId} {len : Nat} {x y z : Operand} {u u2 u3 v : Value} (ho : o.op = .buildSlice t len #[(0, x), (1, y), (2, z)]) (hx : ρ x = u) (hy : ρ y = u2) (hz : ρ z = u3) (h : (Instr.buildSlice t len #[(0, u), (1, u2), (2, u3)]).run P w = .ok v w') : (execOp ρ o).run P w = .ok (.value v) w' := by
  simp only [execOp, ho, List.map_toArray, List.map_cons, List.map_nil, hx, hy, hz, Sem.run_bind, h, Sem.run_pure, Result.andThen_ok]
def seeds : List (List UInt8) := [fst8 1, fst8 2, fst8 3]
theorem seeds32 (l : List (List UInt8 × Nat)) : ∀ z ∈ seeds ++ hashL l, z.length = 32 := by
  intro z hz
  rcases List.mem_append.1 hz with hz | hz
  · simp only [seeds, List.mem_cons, List.not_mem_nil, or_false] at hz
    rcases hz with rfl | rfl | rfl <;> rfl
  · exact hashL_len32 l z hz
theorem seeds_len (l : List (List UInt8 × Nat)) : (seeds ++ hashL l).length = 3 + l.length := by
  rw [List.length_append, hashL_length]; rfl
theorem own_three {W : World} {b g : Nat} (hb : b ≤ g) (h : W.heap[g]? = some (.cells (bytesA (fst8 1 ++ fst8 2 ++ fst8 3)) 28 (0, 0))) : W.ownsRow b 28 32 (.slice (some ⟨g, 0, none⟩) 3 3) 3 (hashCells (seeds ++ hashL [])) := by
  refine ⟨by rfl, .inr ⟨g, 3, _, rfl, hb, h, Nat.le_refl _, by unfold maxLen; omega, by rfl, ?_⟩⟩
  rfl
theorem atL_neg {x : List UInt8} {l : List (List UInt8 × Nat)} (h : atL x l < 0) : x ∉ hashL l := fun hm => by
  obtain ⟨b, hb, he⟩ := List.mem_map.1 hm
  have := firstAt_missD h b hb
  rw [he] at this
  simp at this
structure FillM (w wr : World) (p c : Nat) (v u1 u2 : Value) (L : List (List UInt8 × Nat)) : Prop where
  pool : PoolAt wr p c v 50 L
  since : Since w p c v
  left : Left w wr
  r1 : wr.ownsRow w.heap.size 60 69 u1 L.length (blkCells L)
  r2 : wr.ownsRow w.heap.size 28 32 u2 (3 + L.length) (hashCells (seeds ++ hashL L))
  nodup : (hashL L).Nodup
theorem FillM.below {w wr W : World} {p c : Nat} {v u1 u2 : Value} {L : List (List UInt8 × Nat)} (h : FillM w wr p c v u1 u2 L) (hb : Below wr.heap.size wr W) : FillM w W p c v u1 u2 L :=
  ⟨h.pool.below hb, h.since, h.left.below hb, h.r1.kept (grownBy_of_below hb none) (own_some _), h.r2.kept (grownBy_of_below hb none) (own_some _), h.nodup⟩
set_option maxRecDepth 100000 in
set_option maxHeartbeats 4000000 in
theorem filled_any (at' : Value) (l8 : List UInt8) (hl8 : l8.length ≤ 50) (w : World) (hat : BytesAt w at' l8) :
    Calls Try.prog 71 #[.int .i64 50, at'] w fun e w' => ∃ p c v u1 u2 L, e = .returned (.tuple #[.pointer (some ⟨p, 0, none⟩), u1, u2]) ∧ FillM w w' p c v u1 u2 L := by
  obtain ⟨aa, ac, hsl⟩ := hat.slice
  subst hsl
  have HAT := Lib.hid hat
  have HL8 := Lib.hid hl8
  clear hat hl8
  go_enter Try.func71, Try.ntmps71
  go_upto_region 1 with (fail)
  refine wp_region_lit ?_
  refine wpList_one (v := .int .i64 50) (w' := w) rfl (by kernel_rfl) ?_
  try (conv => lhs; change (Act.mk #[_,_,_,_,_,_,_,_,_,_,_,_,_,_,_,_,_,_,_,_,_,_,_,_,_,_,_,_,_,_,_,_,_,_,_,_,_,_,_,_,_,_,_,_,_,_,_,_,_,_,_,_,_,_,_,_,_,_,_,_,_,_,_] _))
  refine wpList_call rfl (f := 37) (args := #[.int .i64 ((50 : Nat) : Int)]) (by kernel_rfl) ((new_ok 50 (by omega) w).mono ?_)
  rintro e W1 ⟨rfl, hp1, hb⟩
  refine ⟨_, rfl, ?_⟩
  try (conv => lhs; change (Act.mk #[_,_,_,_,_,_,_,_,_,_,_,_,_,_,_,_,_,_,_,_,_,_,_,_,_,_,_,_,_,_,_,_,_,_,_,_,_,_,_,_,_,_,_,_,_,_,_,_,_,_,_,_,_,_,_,_,_,_,_,_,_,_,_] _))
  obtain ⟨p, hpe⟩ : ∃ p, p = w.heap.size + 1 := ⟨_, rfl⟩
  obtain ⟨c, hce⟩ : ∃ c, c = w.heap.size := ⟨_, rfl⟩
  rw [← hpe, ← hce] at hp1
  rw [← hpe]
  have HS : Hid (Since w p c (.slice none 0 0)) := Lib.hid ⟨by omega, by omega, by rintro k hk; cases hk⟩
  have HB1 := Lib.hid hb
  have HP1 := Lib.hid hp1
  clear hpe hce hp1 hb
  refine wpList_one (v := .tuple #[.pointer (some ⟨p, 0, none⟩), .int .i64 0]) (w' := W1) rfl (by kernel_rfl) ?_
  try (conv => lhs; change (Act.mk #[_,_,_,_,_,_,_,_,_,_,_,_,_,_,_,_,_,_,_,_,_,_,_,_,_,_,_,_,_,_,_,_,_,_,_,_,_,_,_,_,_,_,_,_,_,_,_,_,_,_,_,_,_,_,_,_,_,_,_,_,_,_,_] _))
  refine wpList_one (v := .pointer (some ⟨p, 0, none⟩)) (w' := W1) rfl (by kernel_rfl) ?_
  try (conv => lhs; change (Act.mk #[_,_,_,_,_,_,_,_,_,_,_,_,_,_,_,_,_,_,_,_,_,_,_,_,_,_,_,_,_,_,_,_,_,_,_,_,_,_,_,_,_,_,_,_,_,_,_,_,_,_,_,_,_,_,_,_,_,_,_,_,_,_,_] _))
  refine wpList_one (v := .int .i64 0) (w' := W1) rfl (by kernel_rfl) ?_
  try (conv => lhs; change (Act.mk #[_,_,_,_,_,_,_,_,_,_,_,_,_,_,_,_,_,_,_,_,_,_,_,_,_,_,_,_,_,_,_,_,_,_,_,_,_,_,_,_,_,_,_,_,_,_,_,_,_,_,_,_,_,_,_,_,_,_,_,_,_,_,_] _))
  refine wpList_one (v := .pointer (some ⟨p, 0, none⟩)) (w' := W1) rfl (by kernel_rfl) ?_
  try (conv => lhs; change (Act.mk #[_,_,_,_,_,_,_,_,_,_,_,_,_,_,_,_,_,_,_,_,_,_,_,_,_,_,_,_,_,_,_,_,_,_,_,_,_,_,_,_,_,_,_,_,_,_,_,_,_,_,_,_,_,_,_,_,_,_,_,_,_,_,_] _))
  refine wpList_one (v := .int .i64 0) (w' := W1) rfl (by kernel_rfl) ?_
  try (conv => lhs; change (Act.mk #[_,_,_,_,_,_,_,_,_,_,_,_,_,_,_,_,_,_,_,_,_,_,_,_,_,_,_,_,_,_,_,_,_,_,_,_,_,_,_,_,_,_,_,_,_,_,_,_,_,_,_,_,_,_,_,_,_,_,_,_,_,_,_] _))
  go_upto_region 5 with (fail)
  refine wp_region_lit ?_
  refine wpList_one (v := .agg (bytesA (fst8 1))) (w' := W1) rfl (by kernel_rfl) ?_
  try (conv => lhs; change (Act.mk #[_,_,_,_,_,_,_,_,_,_,_,_,_,_,_,_,_,_,_,_,_,_,_,_,_,_,_,_,_,_,_,_,_,_,_,_,_,_,_,_,_,_,_,_,_,_,_,_,_,_,_,_,_,_,_,_,_,_,_,_,_,_,_] _))
  refine wpList_one (v := .agg (bytesA (fst8 2))) (w' := W1) rfl (by kernel_rfl) ?_
  try (conv => lhs; change (Act.mk #[_,_,_,_,_,_,_,_,_,_,_,_,_,_,_,_,_,_,_,_,_,_,_,_,_,_,_,_,_,_,_,_,_,_,_,_,_,_,_,_,_,_,_,_,_,_,_,_,_,_,_,_,_,_,_,_,_,_,_,_,_,_,_] _))
  refine wpList_one (v := .agg (bytesA (fst8 3))) (w' := W1) rfl (by kernel_rfl) ?_
  try (conv => lhs; change (Act.mk #[_,_,_,_,_,_,_,_,_,_,_,_,_,_,_,_,_,_,_,_,_,_,_,_,_,_,_,_,_,_,_,_,_,_,_,_,_,_,_,_,_,_,_,_,_,_,_,_,_,_,_,_,_,_,_,_,_,_,_,_,_,_,_] _))
  obtain ⟨W2, hW2⟩ : ∃ W2, W2 = W1.alloc (.cells (bytesA (fst8 1 ++ fst8 2 ++ fst8 3)) 28) := ⟨_, rfl⟩
  obtain ⟨g0, hg0⟩ : ∃ g0, g0 = W1.heap.size := ⟨_, rfl⟩
  have hb2 : Below W1.heap.size W1 W2 := hW2 ▸ (Below.refl _ _).alloc (Nat.le_refl _) _
  have hr2 : W2.heap[g0]? = some (.cells (bytesA (fst8 1 ++ fst8 2 ++ fst8 3)) 28 (0, 0)) := by rw [hW2, hg0]; exact heap_alloc_new _ _
  refine wpList_one (v := .slice (some ⟨g0, 0, none⟩) 3 3) (w' := W2) rfl (by rw [hW2, hg0]; exact buildS3_run (x := .tmp 21) (y := .tmp 22) (z := .tmp 23) rfl rfl rfl rfl (run_buildTo 83 28 3 #[(0, .agg (bytesA (fst8 1))), (1, .agg (bytesA (fst8 2))), (2, .agg (bytesA (fst8 3)))] Try.underlying83 (fill28_3 (fst8 1) (fst8 2) (fst8 3) (by rfl) (by rfl) (by rfl)))) ?_
  try (conv => lhs; change (Act.mk #[_,_,_,_,_,_,_,_,_,_,_,_,_,_,_,_,_,_,_,_,_,_,_,_,_,_,_,_,_,_,_,_,_,_,_,_,_,_,_,_,_,_,_,_,_,_,_,_,_,_,_,_,_,_,_,_,_,_,_,_,_,_,_] _))
  have HF : Hid (FillM w W2 p c (.slice none 0 0) (.slice none 0 0) (.slice (some ⟨g0, 0, none⟩) 3 3) []) := Lib.hid ⟨HP1.out.below hb2, HS.out, (Left.of_below HB1.out).below hb2, World.ownsRow_nil _ _ _ _, own_three (by rw [hg0]; exact HB1.out.size) hr2, List.nodup_nil⟩
  clear hW2 hg0 hb2 hr2 HS HB1 HP1
  refine wpList_one (v := .slice (some ⟨g0, 0, none⟩) 3 3) (w' := W2) rfl (by kernel_rfl) ?_
  try (conv => lhs; change (Act.mk #[_,_,_,_,_,_,_,_,_,_,_,_,_,_,_,_,_,_,_,_,_,_,_,_,_,_,_,_,_,_,_,_,_,_,_,_,_,_,_,_,_,_,_,_,_,_,_,_,_,_,_,_,_,_,_,_,_,_,_,_,_,_,_] _))
  go_upto_region 6 with (fail)
  refine wp_region_lit ?_
  refine wpList_one (v := .slice aa l8.length ac) (w' := W2) rfl (by kernel_rfl) ?_
  try (conv => lhs; change (Act.mk #[_,_,_,_,_,_,_,_,_,_,_,_,_,_,_,_,_,_,_,_,_,_,_,_,_,_,_,_,_,_,_,_,_,_,_,_,_,_,_,_,_,_,_,_,_,_,_,_,_,_,_,_,_,_,_,_,_,_,_,_,_,_,_] _))
  refine wpList_one (v := .int .i64 (l8.length : Int)) (w' := W2) rfl (len_run (x := .tmp 25) (v := .slice aa l8.length ac) rfl rfl (len25 W2 aa l8.length ac _)) ?_
  try (conv => lhs; change (Act.mk #[_,_,_,_,_,_,_,_,_,_,_,_,_,_,_,_,_,_,_,_,_,_,_,_,_,_,_,_,_,_,_,_,_,_,_,_,_,_,_,_,_,_,_,_,_,_,_,_,_,_,_,_,_,_,_,_,_,_,_,_,_,_,_] _))
  refine wpList_one (v := .int .i64 ((0 : Nat) : Int)) (w' := W2) rfl (by kernel_rfl) ?_
  try (conv => lhs; change (Act.mk #[_,_,_,_,_,_,_,_,_,_,_,_,_,_,_,_,_,_,_,_,_,_,_,_,_,_,_,_,_,_,_,_,_,_,_,_,_,_,_,_,_,_,_,_,_,_,_,_,_,_,_,_,_,_,_,_,_,_,_,_,_,_,_] _))
  go_wp2_with fail
  go_loopw [9, 10, 27] (fun u1 u2 t wr => ∃ (k : Nat) (v : Value) (L : List (List UInt8 × Nat)), k ≤ l8.length ∧ t = .int .i64 (k : Int) ∧ L.length ≤ k ∧ FillM w wr p c v u1 u2 L) (fun _ _ t _ => l8.length - (intOf t).toNat)
  case atStart => exact ⟨0, _, [], Nat.zero_le _, rfl, Nat.le_refl _, HF.out⟩
  case round =>
    clear HF
    obtain ⟨k, v, L, hk, rfl, hLk, hF⟩ := hrel
    have HF := Lib.hid hF
    have HK := Lib.hid hk
    have HLK := Lib.hid hLk
    obtain ⟨s1, c1, hu1⟩ := own_slice HF.out.r1
    obtain ⟨g2, c2, hu2, _, _⟩ := own_live HF.out.r2 (by omega)
    subst hu1
    subst hu2
    clear hF hk hLk
    go_upto_region 7 with (fail)
    refine wp_region_lit ?_
    refine wpList_one (w' := wr) rfl (lss2_run (x := .tmp 27) (y := .tmp 26) (a := k) (b := l8.length) rfl rfl rfl) ?_
    try (conv => lhs; change (Act.mk #[_,_,_,_,_,_,_,_,_,_,_,_,_,_,_,_,_,_,_,_,_,_,_,_,_,_,_,_,_,_,_,_,_,_,_,_,_,_,_,_,_,_,_,_,_,_,_,_,_,_,_,_,_,_,_,_,_,_,_,_,_,_,_] _))
    by_cases hlt : k < l8.length
    · rw [decide_eq_true hlt]
      obtain ⟨x, hi⟩ : ∃ x, l8[k]? = some x := ⟨l8[k], List.getElem?_eq_getElem hlt⟩
      obtain ⟨A, hA, hld⟩ := byte_at (HAT.out.left HF.out.left) hi
      obtain ⟨j, hj⟩ : ∃ j, j = x.toNat % (3 + L.length) := ⟨_, rfl⟩
      have hjlt : j < 3 + L.length := hj ▸ Nat.mod_lt _ (by omega)
      obtain ⟨prev, hprev⟩ : ∃ prev, (seeds ++ hashL L)[j]? = some prev := ⟨(seeds ++ hashL L)[j]'(by rw [seeds_len]; exact hjlt), List.getElem?_eq_getElem _⟩
      have hpl := seeds32 L prev (List.mem_of_getElem? hprev)
      have hx8 := x.toNat_lt
      have HLT := Lib.hid hlt
      have HA := Lib.hid hA
      have HLD := Lib.hid hld
      have HJ := Lib.hid hj
      have HJL := Lib.hid hjlt
      have HPV := Lib.hid hprev
      have HPL := Lib.hid hpl
      have HX := Lib.hid hx8
      clear hlt hA hld hj hjlt hprev hpl hx8 hi
      go_upto_region 9 with (fail)
      refine wp_region_lit ?_
      refine wpList_one (v := .slice (some ⟨g2, 0, none⟩) (3 + L.length) c2) (w' := wr) rfl (move_run (x := .tmp 10) rfl rfl) ?_
      try (conv => lhs; change (Act.mk #[_,_,_,_,_,_,_,_,_,_,_,_,_,_,_,_,_,_,_,_,_,_,_,_,_,_,_,_,_,_,_,_,_,_,_,_,_,_,_,_,_,_,_,_,_,_,_,_,_,_,_,_,_,_,_,_,_,_,_,_,_,_,_] _))
      refine wpList_one (v := .slice aa l8.length ac) (w' := wr) rfl (move_run (x := .tmp 1) rfl rfl) ?_
      try (conv => lhs; change (Act.mk #[_,_,_,_,_,_,_,_,_,_,_,_,_,_,_,_,_,_,_,_,_,_,_,_,_,_,_,_,_,_,_,_,_,_,_,_,_,_,_,_,_,_,_,_,_,_,_,_,_,_,_,_,_,_,_,_,_,_,_,_,_,_,_] _))
      refine wpList_one (v := .int .i64 (k : Int)) (w' := wr) rfl (move_run (x := .tmp 11) rfl rfl) ?_
      try (conv => lhs; change (Act.mk #[_,_,_,_,_,_,_,_,_,_,_,_,_,_,_,_,_,_,_,_,_,_,_,_,_,_,_,_,_,_,_,_,_,_,_,_,_,_,_,_,_,_,_,_,_,_,_,_,_,_,_,_,_,_,_,_,_,_,_,_,_,_,_] _))
      refine wpList_one (v := .pointer (some A)) (w' := wr) rfl (index_run rfl (HA.out wr)) ?_
      try (conv => lhs; change (Act.mk #[_,_,_,_,_,_,_,_,_,_,_,_,_,_,_,_,_,_,_,_,_,_,_,_,_,_,_,_,_,_,_,_,_,_,_,_,_,_,_,_,_,_,_,_,_,_,_,_,_,_,_,_,_,_,_,_,_,_,_,_,_,_,_] _))
      refine wpList_one (v := .int .u8 (x.toNat : Int)) (w' := wr) rfl (load_run (x := .tmp 34) (A := A) rfl rfl HLD.out) ?_
      try (conv => lhs; change (Act.mk #[_,_,_,_,_,_,_,_,_,_,_,_,_,_,_,_,_,_,_,_,_,_,_,_,_,_,_,_,_,_,_,_,_,_,_,_,_,_,_,_,_,_,_,_,_,_,_,_,_,_,_,_,_,_,_,_,_,_,_,_,_,_,_] _))
      refine wpList_one (v := .int .i64 (x.toNat : Int)) (w' := wr) rfl (conv53_run (x := .tmp 35) rfl rfl (by have := HX.out; omega)) ?_
      try (conv => lhs; change (Act.mk #[_,_,_,_,_,_,_,_,_,_,_,_,_,_,_,_,_,_,_,_,_,_,_,_,_,_,_,_,_,_,_,_,_,_,_,_,_,_,_,_,_,_,_,_,_,_,_,_,_,_,_,_,_,_,_,_,_,_,_,_,_,_,_] _))
      refine wpList_one (v := .slice (some ⟨g2, 0, none⟩) (3 + L.length) c2) (w' := wr) rfl (move_run (x := .tmp 10) rfl rfl) ?_
      try (conv => lhs; change (Act.mk #[_,_,_,_,_,_,_,_,_,_,_,_,_,_,_,_,_,_,_,_,_,_,_,_,_,_,_,_,_,_,_,_,_,_,_,_,_,_,_,_,_,_,_,_,_,_,_,_,_,_,_,_,_,_,_,_,_,_,_,_,_,_,_] _))
      refine wpList_one (v := .int .i64 ((3 + L.length : Nat) : Int)) (w' := wr) rfl (len_run (x := .tmp 37) (v := .slice (some ⟨g2, 0, none⟩) (3 + L.length) c2) rfl rfl (len83 wr _ (3 + L.length) c2 _)) ?_
      try (conv => lhs; change (Act.mk #[_,_,_,_,_,_,_,_,_,_,_,_,_,_,_,_,_,_,_,_,_,_,_,_,_,_,_,_,_,_,_,_,_,_,_,_,_,_,_,_,_,_,_,_,_,_,_,_,_,_,_,_,_,_,_,_,_,_,_,_,_,_,_] _))
      refine wpList_one (v := .int .i64 (j : Int)) (w' := wr) rfl (by rw [HJ.out]; exact rem_run (x := .tmp 36) (y := .tmp 38) rfl rfl rfl (by omega) (by have := HX.out; omega)) ?_
      try (conv => lhs; change (Act.mk #[_,_,_,_,_,_,_,_,_,_,_,_,_,_,_,_,_,_,_,_,_,_,_,_,_,_,_,_,_,_,_,_,_,_,_,_,_,_,_,_,_,_,_,_,_,_,_,_,_,_,_,_,_,_,_,_,_,_,_,_,_,_,_] _))
      refine wpList_one (v := .pointer (some ⟨g2, j * 32, none⟩)) (w' := wr) rfl (index_run rfl (index83 wr g2 (3 + L.length) c2 j HJL.out)) ?_
      try (conv => lhs; change (Act.mk #[_,_,_,_,_,_,_,_,_,_,_,_,_,_,_,_,_,_,_,_,_,_,_,_,_,_,_,_,_,_,_,_,_,_,_,_,_,_,_,_,_,_,_,_,_,_,_,_,_,_,_,_,_,_,_,_,_,_,_,_,_,_,_] _))
      refine wpList_one (v := .agg (bytesA prev)) (w' := wr) rfl (load_run (x := .tmp 40) (A := ⟨g2, j * 32, none⟩) rfl rfl (row_hash HF.out.r2 (seeds32 L) HPV.out)) ?_
      try (conv => lhs; change (Act.mk #[_,_,_,_,_,_,_,_,_,_,_,_,_,_,_,_,_,_,_,_,_,_,_,_,_,_,_,_,_,_,_,_,_,_,_,_,_,_,_,_,_,_,_,_,_,_,_,_,_,_,_,_,_,_,_,_,_,_,_,_,_,_,_] _))
      refine wpList_one (v := .int .i64 (k : Int)) (w' := wr) rfl (move_run (x := .tmp 11) rfl rfl) ?_
      try (conv => lhs; change (Act.mk #[_,_,_,_,_,_,_,_,_,_,_,_,_,_,_,_,_,_,_,_,_,_,_,_,_,_,_,_,_,_,_,_,_,_,_,_,_,_,_,_,_,_,_,_,_,_,_,_,_,_,_,_,_,_,_,_,_,_,_,_,_,_,_] _))
      refine wpList_one (v := .int .u32 (k : Int)) (w' := wr) rfl (conv355_run (x := .tmp 42) rfl rfl (by have := HK.out; have := HL8.out; omega)) ?_
      try (conv => lhs; change (Act.mk #[_,_,_,_,_,_,_,_,_,_,_,_,_,_,_,_,_,_,_,_,_,_,_,_,_,_,_,_,_,_,_,_,_,_,_,_,_,_,_,_,_,_,_,_,_,_,_,_,_,_,_,_,_,_,_,_,_,_,_,_,_,_,_] _))
      refine wpList_call rfl (f := 46) (args := #[.agg (bytesA prev), .int .u32 (k : Int)]) (by kernel_rfl) ((behind27_any prev k HPL.out (by have := HK.out; have := HL8.out; omega) wr).mono ?_)
      rintro e Wa ⟨rfl, hb⟩
      refine ⟨_, rfl, ?_⟩
      try (conv => lhs; change (Act.mk #[_,_,_,_,_,_,_,_,_,_,_,_,_,_,_,_,_,_,_,_,_,_,_,_,_,_,_,_,_,_,_,_,_,_,_,_,_,_,_,_,_,_,_,_,_,_,_,_,_,_,_,_,_,_,_,_,_,_,_,_,_,_,_] _))
      have HF := Lib.hid (HF.out.below hb)
      clear hb
      refine wpList_one (v := .tuple #[.agg (blkL prev k).toArray, .agg (bytesA (hh prev k))]) (w' := Wa) rfl (by kernel_rfl) ?_
      try (conv => lhs; change (Act.mk #[_,_,_,_,_,_,_,_,_,_,_,_,_,_,_,_,_,_,_,_,_,_,_,_,_,_,_,_,_,_,_,_,_,_,_,_,_,_,_,_,_,_,_,_,_,_,_,_,_,_,_,_,_,_,_,_,_,_,_,_,_,_,_] _))
      refine wpList_one (v := .agg (blkL prev k).toArray) (w' := Wa) rfl (by kernel_rfl) ?_
      try (conv => lhs; change (Act.mk #[_,_,_,_,_,_,_,_,_,_,_,_,_,_,_,_,_,_,_,_,_,_,_,_,_,_,_,_,_,_,_,_,_,_,_,_,_,_,_,_,_,_,_,_,_,_,_,_,_,_,_,_,_,_,_,_,_,_,_,_,_,_,_] _))
      refine wpList_one (v := .agg (bytesA (hh prev k))) (w' := Wa) rfl (by kernel_rfl) ?_
      try (conv => lhs; change (Act.mk #[_,_,_,_,_,_,_,_,_,_,_,_,_,_,_,_,_,_,_,_,_,_,_,_,_,_,_,_,_,_,_,_,_,_,_,_,_,_,_,_,_,_,_,_,_,_,_,_,_,_,_,_,_,_,_,_,_,_,_,_,_,_,_] _))
      obtain ⟨k1, Wb, Wc, Wd, W1, hk, hWb, hzb, hWc, hs1, hs2, hbl, hr1, hr2⟩ := two_rows Wa prev k (hh prev k) HPL.out (hh_length _ _)
      refine wpList_one (v := .pointer (some ⟨k1, 0, none⟩)) (w' := Wb) rfl (by rw [hk, hWb]; kernel_rfl) ?_
      try (conv => lhs; change (Act.mk #[_,_,_,_,_,_,_,_,_,_,_,_,_,_,_,_,_,_,_,_,_,_,_,_,_,_,_,_,_,_,_,_,_,_,_,_,_,_,_,_,_,_,_,_,_,_,_,_,_,_,_,_,_,_,_,_,_,_,_,_,_,_,_] _))
      refine wpList_one (v := .pointer (some ⟨k1 + 1, 0, none⟩)) (w' := Wc) rfl (by rw [hWc, ← hzb]; kernel_rfl) ?_
      try (conv => lhs; change (Act.mk #[_,_,_,_,_,_,_,_,_,_,_,_,_,_,_,_,_,_,_,_,_,_,_,_,_,_,_,_,_,_,_,_,_,_,_,_,_,_,_,_,_,_,_,_,_,_,_,_,_,_,_,_,_,_,_,_,_,_,_,_,_,_,_] _))
      refine wpList_put rfl 60 (.tmp 12) (.tmp 45) rfl (A := ⟨k1, 0, none⟩) (v := .agg (blkL prev k).toArray) rfl rfl hs1 ?_
      try (conv => lhs; change (Act.mk #[_,_,_,_,_,_,_,_,_,_,_,_,_,_,_,_,_,_,_,_,_,_,_,_,_,_,_,_,_,_,_,_,_,_,_,_,_,_,_,_,_,_,_,_,_,_,_,_,_,_,_,_,_,_,_,_,_,_,_,_,_,_,_] _))
      refine wpList_put rfl 28 (.tmp 13) (.tmp 46) rfl (A := ⟨k1 + 1, 0, none⟩) (v := .agg (bytesA (hh prev k))) rfl rfl hs2 ?_
      try (conv => lhs; change (Act.mk #[_,_,_,_,_,_,_,_,_,_,_,_,_,_,_,_,_,_,_,_,_,_,_,_,_,_,_,_,_,_,_,_,_,_,_,_,_,_,_,_,_,_,_,_,_,_,_,_,_,_,_,_,_,_,_,_,_,_,_,_,_,_,_] _))
      have HN1 : Hid (∀ j, (Value.slice s1 L.length c1).ownBlock = some j → j < k1) := Lib.hid (fun j hj => hk ▸ (HF.out.r1.lt j hj).2)
      have HN2 : Hid (∀ j, (Value.slice (some ⟨g2, 0, none⟩) (3 + L.length) c2).ownBlock = some j → j < k1) := Lib.hid (fun j hj => hk ▸ (HF.out.r2.lt j hj).2)
      have HF := Lib.hid (HF.out.below hbl)
      have HR1 := Lib.hid hr1
      have HR2 := Lib.hid hr2
      clear hk hWb hzb hWc hs1 hs2 hbl hr1 hr2 HA HLD HJ HJL HPV HX
      go_upto_region 10 with (fail)
      refine wp_region_lit ?_
      refine wpList_one (v := .pointer (some ⟨p, 0, none⟩)) (w' := W1) rfl (by kernel_rfl) ?_
      try (conv => lhs; change (Act.mk #[_,_,_,_,_,_,_,_,_,_,_,_,_,_,_,_,_,_,_,_,_,_,_,_,_,_,_,_,_,_,_,_,_,_,_,_,_,_,_,_,_,_,_,_,_,_,_,_,_,_,_,_,_,_,_,_,_,_,_,_,_,_,_] _))
      refine wpList_get rfl 60 (.tmp 12) rfl (A := ⟨k1, 0, none⟩) rfl (blk_load60 HR1.out HPL.out) ?_
      try (conv => lhs; change (Act.mk #[_,_,_,_,_,_,_,_,_,_,_,_,_,_,_,_,_,_,_,_,_,_,_,_,_,_,_,_,_,_,_,_,_,_,_,_,_,_,_,_,_,_,_,_,_,_,_,_,_,_,_,_,_,_,_,_,_,_,_,_,_,_,_] _))
      by_cases hat : atL (hh prev k) L < 0
      · refine wpList_call rfl (f := 47) (args := #[.pointer (some ⟨p, 0, none⟩), .agg (blkL prev k).toArray]) (by kernel_rfl) ((put_room p c v 50 L prev k HPL.out (by have := HK.out; have := HL8.out; omega) hat (by have := HLK.out; have := HLT.out; have := HL8.out; omega) W1 HF.out.pool).mono ?_)
        rintro e W2 ⟨rfl, v', hp, hm⟩
        refine ⟨_, rfl, ?_⟩
        try (conv => lhs; change (Act.mk #[_,_,_,_,_,_,_,_,_,_,_,_,_,_,_,_,_,_,_,_,_,_,_,_,_,_,_,_,_,_,_,_,_,_,_,_,_,_,_,_,_,_,_,_,_,_,_,_,_,_,_,_,_,_,_,_,_,_,_,_,_,_,_] _))
        refine wpList_one (v := .bool true) (w' := W2) rfl (by kernel_rfl) ?_
        try (conv => lhs; change (Act.mk #[_,_,_,_,_,_,_,_,_,_,_,_,_,_,_,_,_,_,_,_,_,_,_,_,_,_,_,_,_,_,_,_,_,_,_,_,_,_,_,_,_,_,_,_,_,_,_,_,_,_,_,_,_,_,_,_,_,_,_,_,_,_,_] _))
        have hl := HF.out.left.moved HF.out.since hm
        have HL := Lib.hid hl.1
        have HS := Lib.hid hl.2
        have HU1 := Lib.hid (own_moved HF.out.r1 HF.out.pool (by decide) (by decide) hm)
        have HU2 := Lib.hid (own_moved HF.out.r2 HF.out.pool (by decide) (by decide) hm)
        have HR1 := Lib.hid (hm.rowOf HF.out.pool HR1.out (by decide) (by decide))
        have HR2 := Lib.hid (hm.rowOf HF.out.pool HR2.out (by decide) (by decide))
        have HND : Hid ((hashL (L ++ [(prev, k)])).Nodup) := Lib.hid (by
          rw [show hashL (L ++ [(prev, k)]) = hashL L ++ [hh prev k] by simp [hashL], List.nodup_append]
          refine ⟨HF.out.nodup, by simp, fun a ha b hb => ?_⟩
          have : b = hh prev k := by simpa using hb
          rw [this]
          rintro rfl
          exact atL_neg hat ha)
        have HP := Lib.hid hp
        clear hl hp hm hat HF
        go_upto_region 11 with (fail)
        obtain ⟨W3, hW3⟩ : ∃ W3, W3 = W2.drew := ⟨_, rfl⟩
        have hb : Below W2.heap.size W2 W3 := hW3 ▸ (Below.refl _ _).drew
        refine wp_region_held_drew (S := (fun w' => w'.heap[k1]? = some (.cells (blkL prev k).toArray 60 (0, 0)) ∧ w'.heap[k1 + 1]? = some (.cells (bytesA (hh prev k)) 28 (0, 0)))) (by kernel_rfl) (hW3 ▸ ⟨block_below' hb HR1.out, block_below' hb HR2.out⟩) (fun hS => ?_)
        rw [← hW3] at hS ⊢
        have HL := Lib.hid (HL.out.below hb)
        have HP := Lib.hid (HP.out.below hb)
        have HU1 := Lib.hid (HU1.out.kept (grownBy_of_below hb none) (own_some _))
        have HU2 := Lib.hid (HU2.out.kept (grownBy_of_below hb none) (own_some _))
        clear hb hW3 HR1 HR2
        try (conv => lhs; change (Act.mk #[_,_,_,_,_,_,_,_,_,_,_,_,_,_,_,_,_,_,_,_,_,_,_,_,_,_,_,_,_,_,_,_,_,_,_,_,_,_,_,_,_,_,_,_,_,_,_,_,_,_,_,_,_,_,_,_,_,_,_,_,_,_,_] _))
        refine wpAnyH_take (i := 0) (v := .slice s1 L.length c1) rfl (by kernel_rfl) (by kernel_rfl) (by kernel_rfl) (fun _ _ _ h => h) (Or.inl ⟨by rfl, fun w hw => move_run (x := .tmp 9) rfl rfl⟩) hS ?_
        try (conv => lhs; change (Act.mk #[_,_,_,_,_,_,_,_,_,_,_,_,_,_,_,_,_,_,_,_,_,_,_,_,_,_,_,_,_,_,_,_,_,_,_,_,_,_,_,_,_,_,_,_,_,_,_,_,_,_,_,_,_,_,_,_,_,_,_,_,_,_,_] _))
        refine wpAnyH_take (i := 1) (v := .agg (blkL prev k).toArray) rfl (by kernel_rfl) (by kernel_rfl) (by kernel_rfl) (fun _ _ _ h => h) (Or.inl ⟨by rfl, fun w hw => load_run (x := .tmp 12) (A := ⟨k1, 0, none⟩) rfl rfl (blk_load60 hw.1 HPL.out)⟩) hS ?_
        try (conv => lhs; change (Act.mk #[_,_,_,_,_,_,_,_,_,_,_,_,_,_,_,_,_,_,_,_,_,_,_,_,_,_,_,_,_,_,_,_,_,_,_,_,_,_,_,_,_,_,_,_,_,_,_,_,_,_,_,_,_,_,_,_,_,_,_,_,_,_,_] _))
        refine wpAnyH_take (i := 4) (v := .slice (some ⟨g2, 0, none⟩) (3 + L.length) c2) rfl (by kernel_rfl) (by kernel_rfl) (by kernel_rfl) (fun _ _ _ h => h) (Or.inl ⟨by rfl, fun w hw => move_run (x := .tmp 10) rfl rfl⟩) hS ?_
        try (conv => lhs; change (Act.mk #[_,_,_,_,_,_,_,_,_,_,_,_,_,_,_,_,_,_,_,_,_,_,_,_,_,_,_,_,_,_,_,_,_,_,_,_,_,_,_,_,_,_,_,_,_,_,_,_,_,_,_,_,_,_,_,_,_,_,_,_,_,_,_] _))
        refine wpAnyH_take (i := 5) (v := .agg (bytesA (hh prev k))) rfl (by kernel_rfl) (by kernel_rfl) (by kernel_rfl) (fun _ _ _ h => h) (Or.inl ⟨by rfl, fun w hw => load_run (x := .tmp 13) (A := ⟨k1 + 1, 0, none⟩) rfl rfl (load28 hw.2 (hh_length _ _))⟩) hS ?_
        try (conv => lhs; change (Act.mk #[_,_,_,_,_,_,_,_,_,_,_,_,_,_,_,_,_,_,_,_,_,_,_,_,_,_,_,_,_,_,_,_,_,_,_,_,_,_,_,_,_,_,_,_,_,_,_,_,_,_,_,_,_,_,_,_,_,_,_,_,_,_,_] _))
        refine wpAnyH_ready (rs := [2, 6]) (by kernel_rfl) (by simp) ?_
        refine AllReadyH.cons rfl (fun K hK => ?_) (AllReadyH.cons rfl (fun K hK => ?_) AllReadyH.nil)
        · refine step_val rfl (.slice (some ⟨W3.heap.size, 0, none⟩) 1 1) (w' := W3.alloc (.cells (blkL prev k).toArray 60)) (buildS_run (x := .tmp 52) rfl rfl (run_buildTo 63 60 1 #[(0, .agg (blkL prev k).toArray)] Try.underlying63 (fill60 prev k HPL.out))) ?_
          obtain ⟨W4, hWn⟩ : ∃ W', W' = W3.alloc (.cells (blkL prev k).toArray 60) := ⟨_, rfl⟩
          obtain ⟨q1, hg⟩ : ∃ g, g = W3.heap.size := ⟨_, rfl⟩
          have hb : Below W3.heap.size W3 W4 := hWn ▸ (Below.refl _ _).alloc (Nat.le_refl _) _
          have HG1 : Hid (W4.heap[q1]? = some (.cells (blkL prev k).toArray 60 (0, 0))) := Lib.hid (by rw [hWn, hg]; exact heap_alloc_new _ _)
          rw [← hWn, ← hg]
          have HU1 := Lib.hid (HU1.out.kept (grownBy_of_below hb none) (own_some _))
          have HU2 := Lib.hid (HU2.out.kept (grownBy_of_below hb none) (own_some _))
          have HL := Lib.hid (HL.out.below hb)
          have HP := Lib.hid (HP.out.below hb)
          have hSn := And.intro (block_below' hb hS.1) (block_below' hb hS.2)
          clear hb hWn hg
          refine hK.out _ _ hSn (fun hS => ?_); clear hK K
          try (conv => lhs; change (Act.mk #[_,_,_,_,_,_,_,_,_,_,_,_,_,_,_,_,_,_,_,_,_,_,_,_,_,_,_,_,_,_,_,_,_,_,_,_,_,_,_,_,_,_,_,_,_,_,_,_,_,_,_,_,_,_,_,_,_,_,_,_,_,_,_] _))
          clear hSn
          refine wpAnyH_ready (rs := [3, 6]) (by kernel_rfl) (by simp) ?_
          refine AllReadyH.cons rfl (fun K hK => ?_) (AllReadyH.cons rfl (fun K hK => ?_) AllReadyH.nil)
          · obtain ⟨u1', W5, hrun, hown, hgr⟩ := append60 W4 63 w.heap.size HL.out.size (.slice s1 L.length c1) L.length (blkCells L) HU1.out (by have := HLK.out; have := HLT.out; have := HL8.out; omega) q1 prev k HPL.out HG1.out
            refine step_val rfl u1' (append_run (x := .tmp 51) (y := .tmp 53) rfl rfl rfl hrun) ?_
            have hSn := And.intro (grown_at hgr hS.1 (fun e => Nat.lt_irrefl _ (HN1.out _ e))) (grown_row HU1.out hgr hS.2 (by decide))
            have HP := Lib.hid (HP.out.grown HU1.out (by decide) (by decide) hgr)
            have HL := Lib.hid (HL.out.grown hgr (fun k hk => (HU1.out.lt k hk).1))
            have HU2 := Lib.hid (own_grown HU2.out HU1.out hgr (by decide))
            have HU1 := Lib.hid hown
            clear hrun hown hgr HG1
            refine hK.out _ _ hSn (fun hS => ?_); clear hK K
            try (conv => lhs; change (Act.mk #[_,_,_,_,_,_,_,_,_,_,_,_,_,_,_,_,_,_,_,_,_,_,_,_,_,_,_,_,_,_,_,_,_,_,_,_,_,_,_,_,_,_,_,_,_,_,_,_,_,_,_,_,_,_,_,_,_,_,_,_,_,_,_] _))
            clear hSn
            refine wpAnyH_ready (rs := [6]) (by kernel_rfl) (by simp) ?_
            refine AllReadyH.cons rfl (fun K hK => ?_) AllReadyH.nil
            refine step_val rfl (.slice (some ⟨W5.heap.size, 0, none⟩) 1 1) (w' := W5.alloc (.cells (bytesA (hh prev k)) 28)) (buildS_run (x := .tmp 56) rfl rfl (run_buildTo 83 28 1 #[(0, .agg (bytesA (hh prev k)))] Try.underlying83 (fill28 (hh prev k) (hh_length _ _)))) ?_
            obtain ⟨W6, hWn⟩ : ∃ W', W' = W5.alloc (.cells (bytesA (hh prev k)) 28) := ⟨_, rfl⟩
            obtain ⟨q2, hg⟩ : ∃ g, g = W5.heap.size := ⟨_, rfl⟩
            have hb : Below W5.heap.size W5 W6 := hWn ▸ (Below.refl _ _).alloc (Nat.le_refl _) _
            have HG2 : Hid (W6.heap[q2]? = some (.cells (bytesA (hh prev k)) 28 (0, 0))) := Lib.hid (by rw [hWn, hg]; exact heap_alloc_new _ _)
            rw [← hWn, ← hg]
            have HU1 := Lib.hid (HU1.out.kept (grownBy_of_below hb none) (own_some _))
            have HU2 := Lib.hid (HU2.out.kept (grownBy_of_below hb none) (own_some _))
            have HL := Lib.hid (HL.out.below hb)
            have HP := Lib.hid (HP.out.below hb)
            have hSn := And.intro (block_below' hb hS.1) (block_below' hb hS.2)
            clear hb hWn hg
            refine hK.out _ _ hSn (fun hS => ?_); clear hK K
            try (conv => lhs; change (Act.mk #[_,_,_,_,_,_,_,_,_,_,_,_,_,_,_,_,_,_,_,_,_,_,_,_,_,_,_,_,_,_,_,_,_,_,_,_,_,_,_,_,_,_,_,_,_,_,_,_,_,_,_,_,_,_,_,_,_,_,_,_,_,_,_] _))
            clear hSn
            refine wpAnyH_ready (rs := [7]) (by kernel_rfl) (by simp) ?_
            refine AllReadyH.cons rfl (fun K hK => ?_) AllReadyH.nil
            obtain ⟨u2', W7, hrun, hown, hgr⟩ := append28 W6 83 w.heap.size HL.out.size (.slice (some ⟨g2, 0, none⟩) (3 + L.length) c2) (3 + L.length) (hashCells (seeds ++ hashL L)) HU2.out (by have := HLK.out; have := HLT.out; have := HL8.out; omega) q2 (hh prev k) (hh_length _ _) HG2.out
            refine step_val rfl u2' (append_run (x := .tmp 55) (y := .tmp 57) rfl rfl rfl hrun) ?_
            have hSn := And.intro (grown_row HU2.out hgr hS.1 (by decide)) (grown_at hgr hS.2 (fun e => by have := HN2.out _ e; omega))
            have HP := Lib.hid (HP.out.grown HU2.out (by decide) (by decide) hgr)
            have HL := Lib.hid (HL.out.grown hgr (fun k hk => (HU2.out.lt k hk).1))
            have HU1 := Lib.hid (own_grown HU1.out HU2.out hgr (by decide))
            have HU2 := Lib.hid hown
            clear hrun hown hgr HG2
            refine hK.out _ _ hSn (fun hS => ?_); clear hK K
            try (conv => lhs; change (Act.mk #[_,_,_,_,_,_,_,_,_,_,_,_,_,_,_,_,_,_,_,_,_,_,_,_,_,_,_,_,_,_,_,_,_,_,_,_,_,_,_,_,_,_,_,_,_,_,_,_,_,_,_,_,_,_,_,_,_,_,_,_,_,_,_] _))
            clear hSn
            refine wpAnyH_take (i := 8) (v := u1') rfl (by kernel_rfl) (by kernel_rfl) (by kernel_rfl) (fun _ _ _ h => h) (Or.inl ⟨by rfl, fun w hw => move_run' (x := .tmp 54) rfl rfl⟩) hS ?_
            try (conv => lhs; change (Act.mk #[_,_,_,_,_,_,_,_,_,_,_,_,_,_,_,_,_,_,_,_,_,_,_,_,_,_,_,_,_,_,_,_,_,_,_,_,_,_,_,_,_,_,_,_,_,_,_,_,_,_,_,_,_,_,_,_,_,_,_,_,_,_,_] _))
            refine wpAnyH_take (i := 9) (v := u2') rfl (by kernel_rfl) (by kernel_rfl) (by kernel_rfl) (fun _ _ _ h => h) (Or.inl ⟨by rfl, fun w hw => move_run' (x := .tmp 58) rfl rfl⟩) hS ?_
            try (conv => lhs; change (Act.mk #[_,_,_,_,_,_,_,_,_,_,_,_,_,_,_,_,_,_,_,_,_,_,_,_,_,_,_,_,_,_,_,_,_,_,_,_,_,_,_,_,_,_,_,_,_,_,_,_,_,_,_,_,_,_,_,_,_,_,_,_,_,_,_] _))
            refine wpAnyH_done (by kernel_rfl) ?_ _
            clear hS
            have HFn : Hid (FillM w W7 p c v' u1' u2' (L ++ [(prev, k)])) := Lib.hid ⟨HP.out, HS.out, HL.out, by rw [List.length_append, blkCells_snoc]; exact HU1.out, by
              have := HU2.out
              rw [← hashCells_snoc] at this
              rw [show seeds ++ hashL (L ++ [(prev, k)]) = seeds ++ hashL L ++ [hh prev k] by simp [hashL], List.length_append]
              exact this, HND.out⟩
            clear HP HS HL HU1 HU2 HND
            first | change Exit.then _ _ Exit.normal _ _ | change Exit.inBlock _ _ Exit.normal _ _ | skip
            go_upto_region 12 with (fail)
            refine wp_region_lit ?_
            refine wpList_one (v := .int .i64 ((k + 1 : Nat) : Int)) (w' := W7) rfl (add1_run rfl rfl (by have := HK.out; have := HL8.out; omega)) ?_
            try (conv => lhs; change (Act.mk #[_,_,_,_,_,_,_,_,_,_,_,_,_,_,_,_,_,_,_,_,_,_,_,_,_,_,_,_,_,_,_,_,_,_,_,_,_,_,_,_,_,_,_,_,_,_,_,_,_,_,_,_,_,_,_,_,_,_,_,_,_,_,_] _))
            refine wpList_one (v := .int .i64 ((k + 1 : Nat) : Int)) (w' := W7) rfl (move_run (x := .tmp 59) rfl rfl) ?_
            try (conv => lhs; change (Act.mk #[_,_,_,_,_,_,_,_,_,_,_,_,_,_,_,_,_,_,_,_,_,_,_,_,_,_,_,_,_,_,_,_,_,_,_,_,_,_,_,_,_,_,_,_,_,_,_,_,_,_,_,_,_,_,_,_,_,_,_,_,_,_,_] _))
            go_wp2_with fail
            go_roundw
            case rel => first | exact ⟨k + 1, _, _, HLT.out, rfl, by rw [List.length_append]; have := HLK.out; simp; omega, HFn.out⟩ | exact ⟨k + 1, HLT.out, rfl, _, by rw [List.length_append]; have := HLK.out; simp; omega, _, HFn.out⟩ | exact ⟨k + 1, HLT.out, by first | rfl | simp, _, _, by rw [List.length_append]; have := HLK.out; simp; omega, HFn.out⟩
            case measure =>
              have := HLT.out
              simp only [intOf]
              omega
          · refine step_val rfl (.slice (some ⟨W4.heap.size, 0, none⟩) 1 1) (w' := W4.alloc (.cells (bytesA (hh prev k)) 28)) (buildS_run (x := .tmp 56) rfl rfl (run_buildTo 83 28 1 #[(0, .agg (bytesA (hh prev k)))] Try.underlying83 (fill28 (hh prev k) (hh_length _ _)))) ?_
            obtain ⟨W5, hWn⟩ : ∃ W', W' = W4.alloc (.cells (bytesA (hh prev k)) 28) := ⟨_, rfl⟩
            obtain ⟨q2, hg⟩ : ∃ g, g = W4.heap.size := ⟨_, rfl⟩
            have hb : Below W4.heap.size W4 W5 := hWn ▸ (Below.refl _ _).alloc (Nat.le_refl _) _
            have HG2 : Hid (W5.heap[q2]? = some (.cells (bytesA (hh prev k)) 28 (0, 0))) := Lib.hid (by rw [hWn, hg]; exact heap_alloc_new _ _)
            rw [← hWn, ← hg]
            have HU1 := Lib.hid (HU1.out.kept (grownBy_of_below hb none) (own_some _))
            have HU2 := Lib.hid (HU2.out.kept (grownBy_of_below hb none) (own_some _))
            have HL := Lib.hid (HL.out.below hb)
            have HP := Lib.hid (HP.out.below hb)
            have HG1 := Lib.hid (block_below' hb HG1.out)
            have hSn := And.intro (block_below' hb hS.1) (block_below' hb hS.2)
            clear hb hWn hg
            refine hK.out _ _ hSn (fun hS => ?_); clear hK K
            try (conv => lhs; change (Act.mk #[_,_,_,_,_,_,_,_,_,_,_,_,_,_,_,_,_,_,_,_,_,_,_,_,_,_,_,_,_,_,_,_,_,_,_,_,_,_,_,_,_,_,_,_,_,_,_,_,_,_,_,_,_,_,_,_,_,_,_,_,_,_,_] _))
            clear hSn
            refine wpAnyH_ready (rs := [3]) (by kernel_rfl) (by simp) ?_
            refine AllReadyH.cons rfl (fun K hK => ?_) AllReadyH.nil
            obtain ⟨u1', W6, hrun, hown, hgr⟩ := append60 W5 63 w.heap.size HL.out.size (.slice s1 L.length c1) L.length (blkCells L) HU1.out (by have := HLK.out; have := HLT.out; have := HL8.out; omega) q1 prev k HPL.out HG1.out
            refine step_val rfl u1' (append_run (x := .tmp 51) (y := .tmp 53) rfl rfl rfl hrun) ?_
            have hSn := And.intro (grown_at hgr hS.1 (fun e => Nat.lt_irrefl _ (HN1.out _ e))) (grown_row HU1.out hgr hS.2 (by decide))
            have HP := Lib.hid (HP.out.grown HU1.out (by decide) (by decide) hgr)
            have HL := Lib.hid (HL.out.grown hgr (fun k hk => (HU1.out.lt k hk).1))
            have HU2 := Lib.hid (own_grown HU2.out HU1.out hgr (by decide))
            have HG2 := Lib.hid (grown_row HU1.out hgr HG2.out (by decide))
            have HU1 := Lib.hid hown
            clear hrun hown hgr HG1
            refine hK.out _ _ hSn (fun hS => ?_); clear hK K
            try (conv => lhs; change (Act.mk #[_,_,_,_,_,_,_,_,_,_,_,_,_,_,_,_,_,_,_,_,_,_,_,_,_,_,_,_,_,_,_,_,_,_,_,_,_,_,_,_,_,_,_,_,_,_,_,_,_,_,_,_,_,_,_,_,_,_,_,_,_,_,_] _))
            clear hSn
            refine wpAnyH_ready (rs := [7]) (by kernel_rfl) (by simp) ?_
            refine AllReadyH.cons rfl (fun K hK => ?_) AllReadyH.nil
            obtain ⟨u2', W7, hrun, hown, hgr⟩ := append28 W6 83 w.heap.size HL.out.size (.slice (some ⟨g2, 0, none⟩) (3 + L.length) c2) (3 + L.length) (hashCells (seeds ++ hashL L)) HU2.out (by have := HLK.out; have := HLT.out; have := HL8.out; omega) q2 (hh prev k) (hh_length _ _) HG2.out
            refine step_val rfl u2' (append_run (x := .tmp 55) (y := .tmp 57) rfl rfl rfl hrun) ?_
            have hSn := And.intro (grown_row HU2.out hgr hS.1 (by decide)) (grown_at hgr hS.2 (fun e => by have := HN2.out _ e; omega))
            have HP := Lib.hid (HP.out.grown HU2.out (by decide) (by decide) hgr)
            have HL := Lib.hid (HL.out.grown hgr (fun k hk => (HU2.out.lt k hk).1))
            have HU1 := Lib.hid (own_grown HU1.out HU2.out hgr (by decide))
            have HU2 := Lib.hid hown
            clear hrun hown hgr HG2
            refine hK.out _ _ hSn (fun hS => ?_); clear hK K
            try (conv => lhs; change (Act.mk #[_,_,_,_,_,_,_,_,_,_,_,_,_,_,_,_,_,_,_,_,_,_,_,_,_,_,_,_,_,_,_,_,_,_,_,_,_,_,_,_,_,_,_,_,_,_,_,_,_,_,_,_,_,_,_,_,_,_,_,_,_,_,_] _))
            clear hSn
            refine wpAnyH_take (i := 8) (v := u1') rfl (by kernel_rfl) (by kernel_rfl) (by kernel_rfl) (fun _ _ _ h => h) (Or.inl ⟨by rfl, fun w hw => move_run' (x := .tmp 54) rfl rfl⟩) hS ?_
            try (conv => lhs; change (Act.mk #[_,_,_,_,_,_,_,_,_,_,_,_,_,_,_,_,_,_,_,_,_,_,_,_,_,_,_,_,_,_,_,_,_,_,_,_,_,_,_,_,_,_,_,_,_,_,_,_,_,_,_,_,_,_,_,_,_,_,_,_,_,_,_] _))
            refine wpAnyH_take (i := 9) (v := u2') rfl (by kernel_rfl) (by kernel_rfl) (by kernel_rfl) (fun _ _ _ h => h) (Or.inl ⟨by rfl, fun w hw => move_run' (x := .tmp 58) rfl rfl⟩) hS ?_
            try (conv => lhs; change (Act.mk #[_,_,_,_,_,_,_,_,_,_,_,_,_,_,_,_,_,_,_,_,_,_,_,_,_,_,_,_,_,_,_,_,_,_,_,_,_,_,_,_,_,_,_,_,_,_,_,_,_,_,_,_,_,_,_,_,_,_,_,_,_,_,_] _))
            refine wpAnyH_done (by kernel_rfl) ?_ _
            clear hS
            have HFn : Hid (FillM w W7 p c v' u1' u2' (L ++ [(prev, k)])) := Lib.hid ⟨HP.out, HS.out, HL.out, by rw [List.length_append, blkCells_snoc]; exact HU1.out, by
              have := HU2.out
              rw [← hashCells_snoc] at this
              rw [show seeds ++ hashL (L ++ [(prev, k)]) = seeds ++ hashL L ++ [hh prev k] by simp [hashL], List.length_append]
              exact this, HND.out⟩
            clear HP HS HL HU1 HU2 HND
            first | change Exit.then _ _ Exit.normal _ _ | change Exit.inBlock _ _ Exit.normal _ _ | skip
            go_upto_region 12 with (fail)
            refine wp_region_lit ?_
            refine wpList_one (v := .int .i64 ((k + 1 : Nat) : Int)) (w' := W7) rfl (add1_run rfl rfl (by have := HK.out; have := HL8.out; omega)) ?_
            try (conv => lhs; change (Act.mk #[_,_,_,_,_,_,_,_,_,_,_,_,_,_,_,_,_,_,_,_,_,_,_,_,_,_,_,_,_,_,_,_,_,_,_,_,_,_,_,_,_,_,_,_,_,_,_,_,_,_,_,_,_,_,_,_,_,_,_,_,_,_,_] _))
            refine wpList_one (v := .int .i64 ((k + 1 : Nat) : Int)) (w' := W7) rfl (move_run (x := .tmp 59) rfl rfl) ?_
            try (conv => lhs; change (Act.mk #[_,_,_,_,_,_,_,_,_,_,_,_,_,_,_,_,_,_,_,_,_,_,_,_,_,_,_,_,_,_,_,_,_,_,_,_,_,_,_,_,_,_,_,_,_,_,_,_,_,_,_,_,_,_,_,_,_,_,_,_,_,_,_] _))
            go_wp2_with fail
            go_roundw
            case rel => first | exact ⟨k + 1, _, _, HLT.out, rfl, by rw [List.length_append]; have := HLK.out; simp; omega, HFn.out⟩ | exact ⟨k + 1, HLT.out, rfl, _, by rw [List.length_append]; have := HLK.out; simp; omega, _, HFn.out⟩ | exact ⟨k + 1, HLT.out, by first | rfl | simp, _, _, by rw [List.length_append]; have := HLK.out; simp; omega, HFn.out⟩
            case measure =>
              have := HLT.out
              simp only [intOf]
              omega
        · refine step_val rfl (.slice (some ⟨W3.heap.size, 0, none⟩) 1 1) (w' := W3.alloc (.cells (bytesA (hh prev k)) 28)) (buildS_run (x := .tmp 56) rfl rfl (run_buildTo 83 28 1 #[(0, .agg (bytesA (hh prev k)))] Try.underlying83 (fill28 (hh prev k) (hh_length _ _)))) ?_
          obtain ⟨W4, hWn⟩ : ∃ W', W' = W3.alloc (.cells (bytesA (hh prev k)) 28) := ⟨_, rfl⟩
          obtain ⟨q2, hg⟩ : ∃ g, g = W3.heap.size := ⟨_, rfl⟩
          have hb : Below W3.heap.size W3 W4 := hWn ▸ (Below.refl _ _).alloc (Nat.le_refl _) _
          have HG2 : Hid (W4.heap[q2]? = some (.cells (bytesA (hh prev k)) 28 (0, 0))) := Lib.hid (by rw [hWn, hg]; exact heap_alloc_new _ _)
          rw [← hWn, ← hg]
          have HU1 := Lib.hid (HU1.out.kept (grownBy_of_below hb none) (own_some _))
          have HU2 := Lib.hid (HU2.out.kept (grownBy_of_below hb none) (own_some _))
          have HL := Lib.hid (HL.out.below hb)
          have HP := Lib.hid (HP.out.below hb)
          have hSn := And.intro (block_below' hb hS.1) (block_below' hb hS.2)
          clear hb hWn hg
          refine hK.out _ _ hSn (fun hS => ?_); clear hK K
          try (conv => lhs; change (Act.mk #[_,_,_,_,_,_,_,_,_,_,_,_,_,_,_,_,_,_,_,_,_,_,_,_,_,_,_,_,_,_,_,_,_,_,_,_,_,_,_,_,_,_,_,_,_,_,_,_,_,_,_,_,_,_,_,_,_,_,_,_,_,_,_] _))
          clear hSn
          refine wpAnyH_ready (rs := [2]) (by kernel_rfl) (by simp) ?_
          refine AllReadyH.cons rfl (fun K hK => ?_) AllReadyH.nil
          refine step_val rfl (.slice (some ⟨W4.heap.size, 0, none⟩) 1 1) (w' := W4.alloc (.cells (blkL prev k).toArray 60)) (buildS_run (x := .tmp 52) rfl rfl (run_buildTo 63 60 1 #[(0, .agg (blkL prev k).toArray)] Try.underlying63 (fill60 prev k HPL.out))) ?_
          obtain ⟨W5, hWn⟩ : ∃ W', W' = W4.alloc (.cells (blkL prev k).toArray 60) := ⟨_, rfl⟩
          obtain ⟨q1, hg⟩ : ∃ g, g = W4.heap.size := ⟨_, rfl⟩
          have hb : Below W4.heap.size W4 W5 := hWn ▸ (Below.refl _ _).alloc (Nat.le_refl _) _
          have HG1 : Hid (W5.heap[q1]? = some (.cells (blkL prev k).toArray 60 (0, 0))) := Lib.hid (by rw [hWn, hg]; exact heap_alloc_new _ _)
          rw [← hWn, ← hg]
          have HU1 := Lib.hid (HU1.out.kept (grownBy_of_below hb none) (own_some _))
          have HU2 := Lib.hid (HU2.out.kept (grownBy_of_below hb none) (own_some _))
          have HL := Lib.hid (HL.out.below hb)
          have HP := Lib.hid (HP.out.below hb)
          have HG2 := Lib.hid (block_below' hb HG2.out)
          have hSn := And.intro (block_below' hb hS.1) (block_below' hb hS.2)
          clear hb hWn hg
          refine hK.out _ _ hSn (fun hS => ?_); clear hK K
          try (conv => lhs; change (Act.mk #[_,_,_,_,_,_,_,_,_,_,_,_,_,_,_,_,_,_,_,_,_,_,_,_,_,_,_,_,_,_,_,_,_,_,_,_,_,_,_,_,_,_,_,_,_,_,_,_,_,_,_,_,_,_,_,_,_,_,_,_,_,_,_] _))
          clear hSn
          refine wpAnyH_ready (rs := [3]) (by kernel_rfl) (by simp) ?_
          refine AllReadyH.cons rfl (fun K hK => ?_) AllReadyH.nil
          obtain ⟨u1', W6, hrun, hown, hgr⟩ := append60 W5 63 w.heap.size HL.out.size (.slice s1 L.length c1) L.length (blkCells L) HU1.out (by have := HLK.out; have := HLT.out; have := HL8.out; omega) q1 prev k HPL.out HG1.out
          refine step_val rfl u1' (append_run (x := .tmp 51) (y := .tmp 53) rfl rfl rfl hrun) ?_
          have hSn := And.intro (grown_at hgr hS.1 (fun e => Nat.lt_irrefl _ (HN1.out _ e))) (grown_row HU1.out hgr hS.2 (by decide))
          have HP := Lib.hid (HP.out.grown HU1.out (by decide) (by decide) hgr)
          have HL := Lib.hid (HL.out.grown hgr (fun k hk => (HU1.out.lt k hk).1))
          have HU2 := Lib.hid (own_grown HU2.out HU1.out hgr (by decide))
          have HG2 := Lib.hid (grown_row HU1.out hgr HG2.out (by decide))
          have HU1 := Lib.hid hown
          clear hrun hown hgr HG1
          refine hK.out _ _ hSn (fun hS => ?_); clear hK K
          try (conv => lhs; change (Act.mk #[_,_,_,_,_,_,_,_,_,_,_,_,_,_,_,_,_,_,_,_,_,_,_,_,_,_,_,_,_,_,_,_,_,_,_,_,_,_,_,_,_,_,_,_,_,_,_,_,_,_,_,_,_,_,_,_,_,_,_,_,_,_,_] _))
          clear hSn
          refine wpAnyH_ready (rs := [7]) (by kernel_rfl) (by simp) ?_
          refine AllReadyH.cons rfl (fun K hK => ?_) AllReadyH.nil
          obtain ⟨u2', W7, hrun, hown, hgr⟩ := append28 W6 83 w.heap.size HL.out.size (.slice (some ⟨g2, 0, none⟩) (3 + L.length) c2) (3 + L.length) (hashCells (seeds ++ hashL L)) HU2.out (by have := HLK.out; have := HLT.out; have := HL8.out; omega) q2 (hh prev k) (hh_length _ _) HG2.out
          refine step_val rfl u2' (append_run (x := .tmp 55) (y := .tmp 57) rfl rfl rfl hrun) ?_
          have hSn := And.intro (grown_row HU2.out hgr hS.1 (by decide)) (grown_at hgr hS.2 (fun e => by have := HN2.out _ e; omega))
          have HP := Lib.hid (HP.out.grown HU2.out (by decide) (by decide) hgr)
          have HL := Lib.hid (HL.out.grown hgr (fun k hk => (HU2.out.lt k hk).1))
          have HU1 := Lib.hid (own_grown HU1.out HU2.out hgr (by decide))
          have HU2 := Lib.hid hown
          clear hrun hown hgr HG2
          refine hK.out _ _ hSn (fun hS => ?_); clear hK K
          try (conv => lhs; change (Act.mk #[_,_,_,_,_,_,_,_,_,_,_,_,_,_,_,_,_,_,_,_,_,_,_,_,_,_,_,_,_,_,_,_,_,_,_,_,_,_,_,_,_,_,_,_,_,_,_,_,_,_,_,_,_,_,_,_,_,_,_,_,_,_,_] _))
          clear hSn
          refine wpAnyH_take (i := 8) (v := u1') rfl (by kernel_rfl) (by kernel_rfl) (by kernel_rfl) (fun _ _ _ h => h) (Or.inl ⟨by rfl, fun w hw => move_run' (x := .tmp 54) rfl rfl⟩) hS ?_
          try (conv => lhs; change (Act.mk #[_,_,_,_,_,_,_,_,_,_,_,_,_,_,_,_,_,_,_,_,_,_,_,_,_,_,_,_,_,_,_,_,_,_,_,_,_,_,_,_,_,_,_,_,_,_,_,_,_,_,_,_,_,_,_,_,_,_,_,_,_,_,_] _))
          refine wpAnyH_take (i := 9) (v := u2') rfl (by kernel_rfl) (by kernel_rfl) (by kernel_rfl) (fun _ _ _ h => h) (Or.inl ⟨by rfl, fun w hw => move_run' (x := .tmp 58) rfl rfl⟩) hS ?_
          try (conv => lhs; change (Act.mk #[_,_,_,_,_,_,_,_,_,_,_,_,_,_,_,_,_,_,_,_,_,_,_,_,_,_,_,_,_,_,_,_,_,_,_,_,_,_,_,_,_,_,_,_,_,_,_,_,_,_,_,_,_,_,_,_,_,_,_,_,_,_,_] _))
          refine wpAnyH_done (by kernel_rfl) ?_ _
          clear hS
          have HFn : Hid (FillM w W7 p c v' u1' u2' (L ++ [(prev, k)])) := Lib.hid ⟨HP.out, HS.out, HL.out, by rw [List.length_append, blkCells_snoc]; exact HU1.out, by
            have := HU2.out
            rw [← hashCells_snoc] at this
            rw [show seeds ++ hashL (L ++ [(prev, k)]) = seeds ++ hashL L ++ [hh prev k] by simp [hashL], List.length_append]
            exact this, HND.out⟩
          clear HP HS HL HU1 HU2 HND
          first | change Exit.then _ _ Exit.normal _ _ | change Exit.inBlock _ _ Exit.normal _ _ | skip
          go_upto_region 12 with (fail)
          refine wp_region_lit ?_
          refine wpList_one (v := .int .i64 ((k + 1 : Nat) : Int)) (w' := W7) rfl (add1_run rfl rfl (by have := HK.out; have := HL8.out; omega)) ?_
          try (conv => lhs; change (Act.mk #[_,_,_,_,_,_,_,_,_,_,_,_,_,_,_,_,_,_,_,_,_,_,_,_,_,_,_,_,_,_,_,_,_,_,_,_,_,_,_,_,_,_,_,_,_,_,_,_,_,_,_,_,_,_,_,_,_,_,_,_,_,_,_] _))
          refine wpList_one (v := .int .i64 ((k + 1 : Nat) : Int)) (w' := W7) rfl (move_run (x := .tmp 59) rfl rfl) ?_
          try (conv => lhs; change (Act.mk #[_,_,_,_,_,_,_,_,_,_,_,_,_,_,_,_,_,_,_,_,_,_,_,_,_,_,_,_,_,_,_,_,_,_,_,_,_,_,_,_,_,_,_,_,_,_,_,_,_,_,_,_,_,_,_,_,_,_,_,_,_,_,_] _))
          go_wp2_with fail
          go_roundw
          case rel => first | exact ⟨k + 1, _, _, HLT.out, rfl, by rw [List.length_append]; have := HLK.out; simp; omega, HFn.out⟩ | exact ⟨k + 1, HLT.out, rfl, _, by rw [List.length_append]; have := HLK.out; simp; omega, _, HFn.out⟩ | exact ⟨k + 1, HLT.out, by first | rfl | simp, _, _, by rw [List.length_append]; have := HLK.out; simp; omega, HFn.out⟩
          case measure =>
            have := HLT.out
            simp only [intOf]
            omega
      · refine wpList_call rfl (f := 47) (args := #[.pointer (some ⟨p, 0, none⟩), .agg (blkL prev k).toArray]) (by kernel_rfl) ((put_dup p c v 50 L prev k HPL.out (by have := HK.out; have := HL8.out; omega) (by omega) W1 HF.out.pool).mono ?_)
        rintro e W2 ⟨rfl, hb⟩
        refine ⟨_, rfl, ?_⟩
        try (conv => lhs; change (Act.mk #[_,_,_,_,_,_,_,_,_,_,_,_,_,_,_,_,_,_,_,_,_,_,_,_,_,_,_,_,_,_,_,_,_,_,_,_,_,_,_,_,_,_,_,_,_,_,_,_,_,_,_,_,_,_,_,_,_,_,_,_,_,_,_] _))
        refine wpList_one (v := .bool false) (w' := W2) rfl (by kernel_rfl) ?_
        try (conv => lhs; change (Act.mk #[_,_,_,_,_,_,_,_,_,_,_,_,_,_,_,_,_,_,_,_,_,_,_,_,_,_,_,_,_,_,_,_,_,_,_,_,_,_,_,_,_,_,_,_,_,_,_,_,_,_,_,_,_,_,_,_,_,_,_,_,_,_,_] _))
        have HFn := Lib.hid (HF.out.below hb)
        clear hb hat HF
        go_upto_region 12 with (fail)
        refine wp_region_lit ?_
        refine wpList_one (v := .int .i64 ((k + 1 : Nat) : Int)) (w' := W2) rfl (add1_run rfl rfl (by have := HK.out; have := HL8.out; omega)) ?_
        try (conv => lhs; change (Act.mk #[_,_,_,_,_,_,_,_,_,_,_,_,_,_,_,_,_,_,_,_,_,_,_,_,_,_,_,_,_,_,_,_,_,_,_,_,_,_,_,_,_,_,_,_,_,_,_,_,_,_,_,_,_,_,_,_,_,_,_,_,_,_,_] _))
        refine wpList_one (v := .int .i64 ((k + 1 : Nat) : Int)) (w' := W2) rfl (move_run (x := .tmp 59) rfl rfl) ?_
        try (conv => lhs; change (Act.mk #[_,_,_,_,_,_,_,_,_,_,_,_,_,_,_,_,_,_,_,_,_,_,_,_,_,_,_,_,_,_,_,_,_,_,_,_,_,_,_,_,_,_,_,_,_,_,_,_,_,_,_,_,_,_,_,_,_,_,_,_,_,_,_] _))
        go_wp2_with fail
        go_roundw
        case rel => first | exact ⟨k + 1, _, _, HLT.out, rfl, by have := HLK.out; omega, HFn.out⟩ | exact ⟨k + 1, HLT.out, rfl, _, by have := HLK.out; omega, _, HFn.out⟩ | exact ⟨k + 1, HLT.out, by first | rfl | simp, _, _, by have := HLK.out; omega, HFn.out⟩
        case measure =>
          have := HLT.out
          simp only [intOf]
          omega
    · rw [decide_eq_false hlt]
      go_wp2_with fail
      exact bodyPost_ret (results_tmp3 rfl _ _ _) rfl ⟨p, c, v, _, _, L, rfl, HF.out⟩
end Go.Proofs.Ytdecbimklomdjaa
namespace Go.Proofs.Ytdecbimklomdjaa
open Go Go.RowKit Go.Shelf
theorem fold_pos : ∀ (outs : List (List UInt8)) (kv : List (List UInt8 × Nat)) (y : List UInt8), 0 < valAt (outs.foldl bumpL kv) y ↔ 0 < valAt kv y ∨ y ∈ outs
  | [], kv, y => by simp
  | o :: outs, kv, y => by
    rw [List.foldl_cons, fold_pos outs (bumpL kv o) y, valAt_bump]
    by_cases h : o = y
    · subst h; simp
    · rw [if_neg h]
      have : y ≠ o := fun e => h e.symm
      simp [this]
theorem fold_le : ∀ (outs : List (List UInt8)) (kv : List (List UInt8 × Nat)) (y : List UInt8), valAt (outs.foldl bumpL kv) y ≤ valAt kv y + outs.length
  | [], kv, y => by simp
  | o :: outs, kv, y => by
    have := fold_le outs (bumpL kv o) y
    rw [valAt_bump] at this
    rw [List.foldl_cons, List.length_cons]
    split at this <;> omega
theorem fold_step (outs : List (List UInt8)) (kv : List (List UInt8 × Nat)) {i : Nat} {y : List UInt8} (h : outs[i]? = some y) : (outs.take (i + 1)).foldl bumpL kv = bumpL ((outs.take i).foldl bumpL kv) y := by
  rw [List.take_add_one, h, List.foldl_append]; rfl
theorem inj_of_nodup {α β : Type} (f : α → β) : ∀ (l : List α), (l.map f).Nodup → ∀ a b, a ∈ l → b ∈ l → f a = f b → a = b
  | [], _, _, _, h, _, _ => by cases h
  | c :: l, hn, a, b, ha, hb, he => by
    rw [List.map_cons, List.nodup_cons] at hn
    rcases List.mem_cons.1 ha with ha2 | ha2
    · rcases List.mem_cons.1 hb with hb2 | hb2
      · exact ha2.trans hb2.symm
      · exact absurd (by rw [← ha2, he]; exact List.mem_map_of_mem hb2) hn.1
    · rcases List.mem_cons.1 hb with hb2 | hb2
      · exact absurd (by rw [← hb2, ← he]; exact List.mem_map_of_mem ha2) hn.1
      · exact inj_of_nodup f l hn.2 a b ha2 hb2 he
section
variable {S : List UInt8 → Bool} {x : List UInt8} {L : List (List UInt8 × Nat)}
/-- What has been counted, and the hash itself: just what hangs. -/
theorem gone_pos (hS : Hangs S x L) (y : List UInt8) : decide (0 < valAt ((hashL (L.filter fun b => S b.1)).foldl bumpL [(x, 1)]) y) = S y := by
  have h0 : 0 < valAt [(x, 1)] y ↔ x = y := by
    rw [valAt_cons]
    by_cases h : x = y
    · simp [h]
    · simp [h, valAt]
  have h1 : S y = true ↔ 0 < valAt ((hashL (L.filter fun b => S b.1)).foldl bumpL [(x, 1)]) y := by
    rw [fold_pos, h0]
    constructor
    · intro h
      rcases hS.only y h with rfl | ⟨b, hb, h1, h2⟩
      · exact .inl rfl
      · exact .inr (List.mem_map.2 ⟨b, List.mem_filter.2 ⟨hb, h1⟩, h2⟩)
    · rintro (rfl | h)
      · exact hS.start
      · obtain ⟨b, hb, rfl⟩ := List.mem_map.1 h
        obtain ⟨h1, h2⟩ := List.mem_filter.1 hb
        exact hS.next b h1 h2
  rw [Bool.eq_iff_iff, decide_eq_true_iff]
  exact h1.symm
theorem hang_same (hS : Hangs S x L) (hn : (hashL L).Nodup) {prev : List UInt8} {n : Nat} (hm : (prev, n) ∈ L) (hx : hh prev n ≠ x) : S (hh prev n) = S prev := by
  rw [Bool.eq_iff_iff]
  constructor
  · intro h
    rcases hS.only _ h with h1 | ⟨b, hb, h1, h2⟩
    · exact absurd h1 hx
    · have := inj_of_nodup (fun b : List UInt8 × Nat => hh b.1 b.2) L hn b (prev, n) hb hm h2
      rw [this] at h1; exact h1
  · exact hS.next (prev, n) hm
theorem left_has (hn : (hashL L).Nodup) {prev : List UInt8} {n : Nat} (hm : (prev, n) ∈ L) : ((L.filter fun b => !S b.1).any fun b => hh b.1 b.2 == hh prev n) = !S prev := by
  rw [Bool.eq_iff_iff, List.any_eq_true]
  constructor
  · rintro ⟨b, hb, he⟩
    obtain ⟨h1, h2⟩ := List.mem_filter.1 hb
    have := inj_of_nodup (fun b : List UInt8 × Nat => hh b.1 b.2) L hn b (prev, n) h1 hm (by simpa using he)
    rw [this] at h2; exact h2
  · intro h
    exact ⟨(prev, n), List.mem_filter.2 ⟨hm, h⟩, by simp⟩
theorem filt_at {α : Type} (P : α → Bool) : ∀ (l : List α) (i : Nat) (b : α), l[i]? = some b → P b = true → (l.filter P)[((l.take i).filter P).length]? = some b
  | [], _, _, h, _ => by simp at h
  | c :: l, 0, b, h, hp => by
    have : c = b := by simpa using h
    subst this
    simp [hp]
  | c :: l, i + 1, b, h, hp => by
    have ih := filt_at P l i b (by simpa using h) hp
    rw [List.take_succ_cons]
    cases hc : P c with
    | true => rw [List.filter_cons_of_pos hc, List.filter_cons_of_pos hc, List.length_cons, List.getElem?_cons_succ]; exact ih
    | false => rw [List.filter_cons_of_neg (by simp [hc]), List.filter_cons_of_neg (by simp [hc])]; exact ih
end
theorem neqF_run {o : Oper} {ρ : Operand → Value} {w : World} {x y : Operand} {a b : Int} (ho : o.op = .binOp .neq 3 x y 3) (hx : ρ x = .int .i64 a) (hy : ρ y = .int .i64 b) (hab : a = b) : (execOp ρ o).run Try.prog w = .ok (.value (.bool false)) w := by
  rw [neqI_run ho hx hy, hab]; simp
theorem eqlT_run {o : Oper} {ρ : Operand → Value} {w : World} {x y : Operand} {a b : Int} (ho : o.op = .binOp .eql 3 x y 3) (hx : ρ x = .int .i64 a) (hy : ρ y = .int .i64 b) (hab : a = b) : (execOp ρ o).run Try.prog w = .ok (.value (.bool true)) w := by
  rw [eqlI_run ho hx hy, hab]; simp
theorem var28 (Wa : World) (x : List UInt8) (hx : x.length = 32) :
    ∃ k Wb We, k = Wa.heap.size ∧ Wb = Wa.alloc (.cells (bytesA (Sha.zeros 32)) 28) ∧ (storeVar 28 ⟨k, 0, none⟩ (.agg (bytesA x))).run Try.prog Wb = .ok () We ∧ Below Wa.heap.size Wa We ∧ We.heap[k]? = some (.cells (bytesA x) 28 (0, 0)) :=
  ⟨_, _, _, rfl, rfl, store28 (heap_alloc_new _ _) (by rw [size_bytesA]; rfl) hx, below_setRow ((Below.refl _ _).alloc (Nat.le_refl _) _) (Nat.le_refl _) _, setRow_heap _ _ _ _ _ _ (heap_alloc_new _ _)⟩
theorem var60 (Wa : World) (prev : List UInt8) (n : Nat) (hp : prev.length = 32) :
    ∃ k Wb We, k = Wa.heap.size ∧ Wb = Wa.alloc (.cells (blkL (Sha.zeros 32) 0).toArray 60) ∧ (storeVar 60 ⟨k, 0, none⟩ (.agg (blkL prev n).toArray)).run Try.prog Wb = .ok () We ∧ Below Wa.heap.size Wa We ∧ We.heap[k]? = some (.cells (blkL prev n).toArray 60 (0, 0)) :=
  ⟨_, _, _, rfl, rfl, blk_store60 (heap_alloc_new _ _) (by rw [List.size_toArray, blkL_length _ _ (by rfl)]) hp, below_setRow ((Below.refl _ _).alloc (Nat.le_refl _) _) (Nat.le_refl _) _, setRow_heap _ _ _ _ _ _ (heap_alloc_new _ _)⟩
theorem geqF_run {o : Oper} {ρ : Operand → Value} {w : World} {x y : Operand} {a b : Nat} (ho : o.op = .binOp .geq 3 x y 3) (hx : ρ x = .int .i64 (a : Int)) (hy : ρ y = .int .i64 (b : Int)) (hab : a < b) : (execOp ρ o).run Try.prog w = .ok (.value (.bool false)) w := by
  rw [geq2_run ho hx hy, decide_eq_false (by omega)]
theorem neq28B_run {o : Oper} {ρ : Operand → Value} {w : World} {x y : Operand} {a b : List UInt8} {q : Bool} (ho : o.op = .binOp .neq 28 x y 28) (hx : ρ x = .agg (bytesA a)) (hy : ρ y = .agg (bytesA b)) (ha : a.length = 32) (hb : b.length = 32) (hq : (a != b) = q) : (execOp ρ o).run Try.prog w = .ok (.value (.bool q)) w := by
  rw [neq28_run ho hx hy ha hb, hq]
theorem gtrB_run {o : Oper} {ρ : Operand → Value} {w : World} {x : Operand} {z : Nat} {q : Bool} (ho : o.op = .binOp .gtr 3 x (.const (.int .i64 0)) 3) (hx : ρ x = .int .i64 (z : Int)) (hq : decide (0 < z) = q) (hc : ρ (.const (.int .i64 0)) = .int .i64 0 := by rfl) : (execOp ρ o).run Try.prog w = .ok (.value (.bool q)) w := by
  rw [gtr_run ho hx hc, hq]
theorem gtr50B_run {o : Oper} {ρ : Operand → Value} {w : World} {x : Operand} {z : Nat} {q : Bool} (ho : o.op = .binOp .gtr 3 x (.const (.int .i64 50)) 3) (hx : ρ x = .int .i64 (z : Int)) (hq : decide (50 < z) = q) (hc : ρ (.const (.int .i64 50)) = .int .i64 50 := by rfl) : (execOp ρ o).run Try.prog w = .ok (.value (.bool q)) w := by
  rw [gtr50_run ho hx hc, hq]
theorem blk_parent {w : World} {g : Nat} {prev : List UInt8} {n : Nat} (h : w.heap[g]? = some (.cells (blkL prev n).toArray 60 (0, 0))) (hp : prev.length = 32) : (loadVar 28 ⟨g, 1, none⟩).run Try.prog w = .ok (.agg (bytesA prev)) w :=
  blk_part w g 1 (blkL prev n) (prev.map V8) 28 _ (0, 0) 60 h (fun j v hj => by
    have := part_mid [Value.int .u32 0] (prev.map V8) ((Sha.zeros 32).map V8 ++ [.int .u32 0, .int .u32 0, .int .u32 (n : Int)] ++ [.slice none 0 0]) 1 j v (by rfl) hj
    simpa [blkL, hdrL] using this) Try.underlying28 rfl (by rw [List.length_map, hp]; kernel_rfl)
/-- What the law holds, behind what was dropped. -/
structure Run18 (w wr : World) (p c : Nat) (v u1 u3 : Value) (k9 b1 b3 : Nat) (x : List UInt8) (L D R : List (List UInt8 × Nat)) : Prop where
  pool : PoolAt wr p c v 50 R
  left : Left w wr
  r1 : wr.ownsRow b1 60 69 u1 L.length (blkCells L)
  r3 : wr.ownsRow b3 28 32 u3 D.length (hashCells (hashL D))
  x9 : wr.heap[k9]? = some (.cells (bytesA x) 28 (0, 0))
section
variable {w wr W : World} {p c : Nat} {v u1 u3 : Value} {k9 b1 b3 : Nat} {x : List UInt8} {L D R : List (List UInt8 × Nat)}
theorem Run18.below (h : Run18 w wr p c v u1 u3 k9 b1 b3 x L D R) (hb : Below wr.heap.size wr W) : Run18 w W p c v u1 u3 k9 b1 b3 x L D R :=
  ⟨h.pool.below hb, h.left.below hb, h.r1.kept (grownBy_of_below hb none) (own_some _), h.r3.kept (grownBy_of_below hb none) (own_some _), block_below' hb h.x9⟩
theorem Run18.put (h : Run18 w wr p c v u1 u3 k9 b1 b3 x L D R) {m : Nat} {es : Array MapEntry} {k : Nat} (hm : wr.heap[m]? = some (.map es k)) (hw : w.heap.size ≤ m) (o : Obj) : Run18 w (wr.putObj m o) p c v u1 u3 k9 b1 b3 x L D R := by
  refine ⟨h.pool.putMap hm o, ⟨h.left.os, h.left.output, by simpa using h.left.size, fun i hi => (World.putObj_heap_other (by omega)).trans (h.left.block i hi)⟩, ?_, ?_, (World.putObj_heap_other ?_).trans h.x9⟩
  · exact own_of_block h.r1 (fun g hg => World.putObj_heap_other (by rintro rfl; exact own_not h.r1 hm (by rintro cs fr heq; cases heq) hg)) (Nat.le_refl _)
  · exact own_of_block h.r3 (fun g hg => World.putObj_heap_other (by rintro rfl; exact own_not h.r3 hm (by rintro cs fr heq; cases heq) hg)) (Nat.le_refl _)
  · rintro rfl; have := h.x9; rw [hm] at this; cases this
end
end Go.Proofs.Ytdecbimklomdjaa
