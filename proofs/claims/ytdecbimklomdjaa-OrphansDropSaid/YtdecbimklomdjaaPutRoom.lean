/- append of one block to a pool's row: the row is the old one, or new; A pool's Put; A pool's Put, with room. -/
import Derived.Test.YtdecbimklomdjaaAt
import Derived.Test.YtdecbimklomdjaaTake
import Derived.Great.Walk
namespace Go.Proofs.Ytdecbimklomdjaa
open Go Go.RowKit Go.Shelf
theorem append_row (w : World) (ty : TypeId) (v : Value) (n : Nat) (xs : List Value) (hown : w.ownsRow 0 139 101 v n xs) (hn : n ≤ 50) (b : Nat) (news : List Value) (hl : news.length = 101) (hnews : ∀ j u, news[j]? = some u → w.cell? ((⟨b, 0, none⟩ : Addr).add j) = some u) (h1 : ∀ u ∈ news, u.oneCell' = true) :
    ∃ v' w', (Builtin.append_ #[89, 89] ty #[v, .slice (some ⟨b, 0, none⟩) 1 1]).run Try.prog w = .ok v' w' ∧ w'.ownsRow 0 139 101 v' (n + 1) (xs ++ news) ∧ w.grownBy w' v.ownBlock ∧ (v'.ownBlock = v.ownBlock ∨ ∀ k, v'.ownBlock = some k → w.heap.size ≤ k) := by
  obtain ⟨i0, z0, hi, hz0, hz1, hz2, hz3, _⟩ := info139_parts
  obtain ⟨v', w', hr, ho, hg, _⟩ := run_append_own (P := Try.prog) w 0 89 ty 139 i0 z0 101 136 Try.underlying89 hi hz0 hz1 hz2 hz3 (by decide) v n xs hown ⟨b, 0, none⟩ 1 1 news (by rw [hl]) hnews h1 (by unfold maxLen; omega) (by omega) (Nat.zero_le _)
  refine ⟨v', w', hr, ho, hg, ?_⟩
  have hown0 := hown
  rcases hown with ⟨hxl, ⟨rfl, rfl⟩ | ⟨g, cap, cur, rfl, _, hgg, hnc, hcm, hcs, htk⟩⟩
  · have hx : xs = [] := List.eq_nil_of_length_eq_zero (by simpa using hxl)
    subst hx
    obtain ⟨v2, w2, hr2, ho2, _⟩ := run_append_own (P := Try.prog) w w.heap.size 89 ty 139 i0 z0 101 136 Try.underlying89 hi hz0 hz1 hz2 hz3 (by decide) (.slice none 0 0) 0 [] (World.ownsRow_nil _ _ _ _) ⟨b, 0, none⟩ 1 1 news (by rw [hl]) hnews h1 (by unfold maxLen; omega) (by omega) (Nat.le_refl _)
    have he := hr.symm.trans hr2
    cases he
    exact .inr fun k hk => (ho2.lt k hk).1
  · by_cases hroom : n + 1 ≤ cap
    · have hr2 := run_append_room (P := Try.prog) w 89 ty 139 i0 Try.underlying89 hi g n cap cur hgg ⟨b, 0, none⟩ 1 1 news (by rw [hl, hz1]) hnews h1 hroom (by rw [hz1, hl, hcs]; omega)
      have he := hr.symm.trans hr2
      cases he
      exact .inl rfl
    · have hr2 := run_append_grow (P := Try.prog) w 89 ty 139 i0 z0 Try.underlying89 hi hz0 ⟨g, 0, none⟩ n cap xs (by rw [hxl, hz1]) (hown0.cells rfl) ⟨b, 0, none⟩ 1 1 news (by rw [hl, hz1]) hnews (by omega) (by omega) (growslice_fits (by omega) (by rw [hz2]; omega))
      have he := hr.symm.trans hr2
      injection he with he1 he2
      subst he1
      exact .inr fun k hk => by have : w.heap.size = k := Option.some.inj hk; omega
end Go.Proofs.Ytdecbimklomdjaa
namespace Go.Proofs.Ytdecbimklomdjaa
open Go Go.RowKit Go.Shelf
set_option maxRecDepth 100000 in
theorem fill139 : ∀ (x prev : List UInt8) (n : Nat), x.length = 32 → prev.length = 32 → Try.prog.builtSlice 139 1 [(0, .agg (oneL x prev n).toArray)] = some (oneL x prev n).toArray
  | [d0, d1, d2, d3, d4, d5, d6, d7, d8, d9, d10, d11, d12, d13, d14, d15, d16, d17, d18, d19, d20, d21, d22, d23, d24, d25, d26, d27, d28, d29, d30, d31], [c0, c1, c2, c3, c4, c5, c6, c7, c8, c9, c10, c11, c12, c13, c14, c15, c16, c17, c18, c19, c20, c21, c22, c23, c24, c25, c26, c27, c28, c29, c30, c31], n, _, _ => by kernel_rfl
theorem run_buildTo {P : Program} {w : World} (t e : TypeId) (len : Nat) (parts : Array (Nat × Value)) {cells : Array Value} (hu : P.underlying t = some (.slice e)) (hf : P.builtSlice e len parts.toList = some cells) :
    (Instr.buildSlice t len parts).run P w = .ok (.slice (some ⟨w.heap.size, 0, none⟩) len len) (w.alloc (.cells cells e)) := by
  unfold Program.builtSlice at hf
  cases hie : P.info? e with
  | none => simp [hie] at hf
  | some ie =>
    simp only [hie] at hf
    cases hz : ie.zero with
    | none => simp [hz] at hf
    | some z =>
      simp only [hz] at hf
      by_cases hc : len * ie.size > 2 ^ 24 ∨ len * ie.size = 0
      · simp [hc] at hf
      · rw [if_neg hc] at hf
        exact run_buildSlice w t e len parts cells ie z hu hie hz (fun h' => hc (.inl h')) (fun h' => hc (.inr h')) hf
theorem buildS_run {P : Program} {o : Oper} {ρ : Operand → Value} {w w' : World} {t : TypeId} {len : Nat} {x : Operand} {u v : Value} (ho : o.op = .buildSlice t len #[(0, x)]) (hx : ρ x = u) (h : (Instr.buildSlice t len #[(0, u)]).run P w = .ok v w') : (execOp ρ o).run P w = .ok (.value v) w' := by
  simp only [execOp, ho, List.map_toArray, List.map_cons, List.map_nil, hx, Sem.run_bind, h, Sem.run_pure, Result.andThen_ok]
theorem append_run {P : Program} {o : Oper} {ρ : Operand → Value} {w w' : World} {t : TypeId} {x y : Operand} {u v r : Value} (ho : o.op = .call { callee := .builtin .append, args := #[x, y], argTypes := #[t, t] }) (hx : ρ x = u) (hy : ρ y = v) (h : (Builtin.append_ #[t, t] o.type #[u, v]).run P w = .ok r w') :
    (execOp ρ o).run P w = .ok (.value r) w' := by
  simp only [execOp, ho, resolve, invoke, builtin, List.map_toArray, List.map_cons, List.map_nil, hx, hy, Sem.run_bind, Sem.run_pure, Result.andThen_ok, h]
theorem built_run {P : Program} {o : Oper} {ρ : Operand → Value} {w : World} {t : TypeId} {x y : Operand} {u v : Value} {cells : Array Value} (ho : o.op = .build t #[(0, x), (1, y)]) (hx : ρ x = u) (hy : ρ y = v) (h : P.built t [(0, u), (1, v)] = some cells) : (execOp ρ o).run P w = .ok (.value (.agg cells)) w := by
  simp only [execOp, ho, List.map_toArray, List.map_cons, List.map_nil, hx, hy, Sem.run_bind, run_build w t _ cells h, Sem.run_pure, Result.andThen_ok]
theorem select_run {o : Oper} {ρ : Operand → Value} {w : World} {x y : Operand} {c : Nat} (ho : o.op = .select #[{ chan := x, send := some y, elem := 140 }] false) (hx : ρ x = .chan (some c)) (hy : ρ y = .agg #[]) : (execOp ρ o).run Try.prog w = .ok (.comm #[Conc.scase c (.agg #[]) (.agg #[])] false .select) w := by
  simp [execOp, ho, hx, hy, Conc.scase]
set_option maxRecDepth 100000 in
set_option maxHeartbeats 1000000 in
theorem put_none (u : Value) (prev : List UInt8) (n : Nat) (hpl : prev.length = 32) (w : World) (h : ∀ W, Below w.heap.size w W → Calls Try.prog 93 #[u] W fun e w' => e = .returned (.bool true) ∧ W = w') :
    Calls Try.prog 47 #[u, .agg (blkL prev n).toArray] w fun e w' => e = .returned (.int .i64 1) ∧ Below w.heap.size w w' := by
  obtain ⟨W1, hW1⟩ : ∃ W1, W1 = w.alloc (.cells (blkL prev n).toArray 60) := ⟨_, rfl⟩
  obtain ⟨B, hB⟩ : ∃ B, B = w.heap.size := ⟨_, rfl⟩
  have hb1 : Below w.heap.size w W1 := hW1 ▸ (Below.refl _ _).alloc (Nat.le_refl _) _
  have HR : Hid (W1.heap[B]? = some (.cells (blkL prev n).toArray 60 (0, 0))) := Lib.hid (by rw [hW1, hB]; exact heap_alloc_new _ _)
  have HB1 := Lib.hid hb1
  have HW1 := Lib.hid hW1
  have HBE := Lib.hid hB
  have HPL := Lib.hid hpl
  have H := Lib.hid h
  clear h
  clear hb1 hW1 hB hpl
  go_enter Try.func47, Try.ntmps47
  go_upto_region 1 with (fail)
  change Code.wp Try.prog _ _ _ (w.alloc (.cells (blkL prev n).toArray 60))
  rw [← HW1.out, ← HBE.out]
  go_wp2_with (go_at_call 93; refine (H.out _ HB1.out).mono ?_; rintro e w' ⟨rfl, rfl⟩)
  go_ret
  exact ⟨rfl, HB1.out⟩
set_option maxRecDepth 100000 in
set_option maxHeartbeats 1000000 in
theorem put_dup (p c : Nat) (v : Value) (most : Nat) (l : List (List UInt8 × Nat)) (prev : List UInt8) (n : Nat) (hpl : prev.length = 32) (hn : n < 4294967296) (hat : 0 ≤ atL (hh prev n) l) (w : World) (hp : PoolAt w p c v most l) :
    Calls Try.prog 47 #[.pointer (some ⟨p, 0, none⟩), .agg (blkL prev n).toArray] w fun e w' => e = .returned (.int .i64 261) ∧ Below w.heap.size w w' := by
  obtain ⟨W1, hW1⟩ : ∃ W1, W1 = w.alloc (.cells (blkL prev n).toArray 60) := ⟨_, rfl⟩
  obtain ⟨B, hB⟩ : ∃ B, B = w.heap.size := ⟨_, rfl⟩
  have hb1 : Below w.heap.size w W1 := hW1 ▸ (Below.refl _ _).alloc (Nat.le_refl _) _
  have HR : Hid (W1.heap[B]? = some (.cells (blkL prev n).toArray 60 (0, 0))) := Lib.hid (by rw [hW1, hB]; exact heap_alloc_new _ _)
  have HB1 := Lib.hid hb1
  have HW1 := Lib.hid hW1
  have HBE := Lib.hid hB
  have HPL := Lib.hid hpl
  have HP := Lib.hid hp
  have HP1 := Lib.hid (hp.below hb1)
  have HN := Lib.hid hn
  have HPW : Hid (p < w.heap.size) := Lib.hid (Array.getElem?_eq_some_iff.1 hp.row).1
  clear hp hn
  clear hb1 hW1 hB hpl
  go_enter Try.func47, Try.ntmps47
  go_upto_region 1 with (fail)
  change Code.wp Try.prog _ _ _ (w.alloc (.cells (blkL prev n).toArray 60))
  rw [← HW1.out, ← HBE.out]
  go_upto_region 3 with (go_at_call 93; refine (none_live W1 p c v most l HP1.out).mono ?_; rintro e w' ⟨rfl, rfl⟩)
  refine wp_region_lit ?_
  refine wpList_one (v := .pointer (some ⟨B, 0, none⟩)) (w' := W1) rfl (by kernel_rfl) ?_
  try (conv => lhs; change (Act.mk #[_,_,_,_,_,_,_,_,_,_,_,_,_,_,_,_,_,_,_,_,_,_,_,_,_,_,_,_,_,_,_,_,_,_,_,_] _))
  refine wpList_get rfl 57 (.tmp 8) rfl (A := ⟨B, 0, none⟩) rfl (blk_load57 HR.out HPL.out) ?_
  try (conv => lhs; change (Act.mk #[_,_,_,_,_,_,_,_,_,_,_,_,_,_,_,_,_,_,_,_,_,_,_,_,_,_,_,_,_,_,_,_,_,_,_,_] _))
  refine wpList_call rfl (f := 72) (args := #[.agg (hdrL prev n).toArray]) (by kernel_rfl) ((bhash_any prev n HPL.out HN.out W1).mono ?_)
  rintro e W2 ⟨rfl, hb2⟩
  refine ⟨_, rfl, ?_⟩
  try (conv => lhs; change (Act.mk #[_,_,_,_,_,_,_,_,_,_,_,_,_,_,_,_,_,_,_,_,_,_,_,_,_,_,_,_,_,_,_,_,_,_,_,_] _))
  refine wpList_one (v := .pointer (some ⟨W2.heap.size, 0, none⟩)) (w' := W2.alloc (.cells (bytesA (Sha.zeros 32)) 28)) rfl (by kernel_rfl) ?_
  try (conv => lhs; change (Act.mk #[_,_,_,_,_,_,_,_,_,_,_,_,_,_,_,_,_,_,_,_,_,_,_,_,_,_,_,_,_,_,_,_,_,_,_,_] _))
  refine wpList_put rfl 28 (.tmp 5) (.tmp 10) rfl (A := ⟨W2.heap.size, 0, none⟩) (v := .agg (bytesA (hh prev n))) rfl rfl (store28 (heap_alloc_new W2 _) (by rw [size_bytesA]; rfl) (hh_length _ _)) ?_
  try (conv => lhs; change (Act.mk #[_,_,_,_,_,_,_,_,_,_,_,_,_,_,_,_,_,_,_,_,_,_,_,_,_,_,_,_,_,_,_,_,_,_,_,_] _))
  rw [World.setRow_alloc_new]
  obtain ⟨W3, hW3⟩ : ∃ W3, W3 = W2.alloc (.cells (bytesA (hh prev n)) 28) := ⟨_, rfl⟩
  obtain ⟨q, hq⟩ : ∃ q, q = W2.heap.size := ⟨_, rfl⟩
  have hb3 : Below W2.heap.size W2 W3 := hW3 ▸ (Below.refl _ _).alloc (Nat.le_refl _) _
  have hb13 : Below W1.heap.size W1 W3 := hb2.trans (hb3.mono hb2.size)
  have HQ : Hid (W3.heap[q]? = some (.cells (bytesA (hh prev n)) 28 (0, 0))) := Lib.hid (by rw [hW3, hq]; exact heap_alloc_new _ _)
  have HQB : Hid (B < q) := Lib.hid (by have := (Array.getElem?_eq_some_iff.1 HR.out).1; have := hb2.size; omega)
  have HR := Lib.hid (block_below' hb13 HR.out)
  have HB3 := Lib.hid (HB1.out.trans (hb13.mono HB1.out.size))
  have HP3 := Lib.hid (HP1.out.below hb13)
  rw [← hW3, ← hq]
  clear hb2 hb3 hb13 hW3 hq
  go_upto_region 4 with (fail)
  refine wp_region_lit ?_
  refine wpList_one (v := .pointer (some ⟨p, 0, none⟩)) (w' := W3) rfl (by kernel_rfl) ?_
  try (conv => lhs; change (Act.mk #[_,_,_,_,_,_,_,_,_,_,_,_,_,_,_,_,_,_,_,_,_,_,_,_,_,_,_,_,_,_,_,_,_,_,_,_] _))
  refine wpList_get rfl 28 (.tmp 5) rfl (A := ⟨q, 0, none⟩) rfl (load28 HQ.out (hh_length _ _)) ?_
  try (conv => lhs; change (Act.mk #[_,_,_,_,_,_,_,_,_,_,_,_,_,_,_,_,_,_,_,_,_,_,_,_,_,_,_,_,_,_,_,_,_,_,_,_] _))
  refine wpList_call rfl (f := 96) (args := #[.pointer (some ⟨p, 0, none⟩), .agg (bytesA (hh prev n))]) (by kernel_rfl) ((at_any p c v most l (hh prev n) (hh_length _ _) W3 HP3.out).mono ?_)
  rintro e W4 ⟨rfl, hb4⟩
  refine ⟨_, rfl, ?_⟩
  try (conv => lhs; change (Act.mk #[_,_,_,_,_,_,_,_,_,_,_,_,_,_,_,_,_,_,_,_,_,_,_,_,_,_,_,_,_,_,_,_,_,_,_,_] _))
  refine wpList_one (w' := W4) rfl (geq_run (x := .tmp 13) rfl rfl) ?_
  try (conv => lhs; change (Act.mk #[_,_,_,_,_,_,_,_,_,_,_,_,_,_,_,_,_,_,_,_,_,_,_,_,_,_,_,_,_,_,_,_,_,_,_,_] _))
  have HQ := Lib.hid (block_below' hb4 HQ.out)
  have HR := Lib.hid (block_below' hb4 HR.out)
  have HB4 := Lib.hid (HB3.out.trans (hb4.mono HB3.out.size))
  have HP4 := Lib.hid (HP3.out.below hb4)
  clear hb4
  rw [decide_eq_true hat]
  go_wp2_with fail
  go_ret
  exact ⟨rfl, HB4.out⟩
set_option maxRecDepth 100000 in
set_option maxHeartbeats 1000000 in
theorem put_full (p c : Nat) (v : Value) (most : Nat) (l : List (List UInt8 × Nat)) (prev : List UInt8) (n : Nat) (hpl : prev.length = 32) (hn : n < 4294967296) (hat : atL (hh prev n) l < 0) (hfull : l.length = most) (w : World) (hp : PoolAt w p c v most l) :
    Calls Try.prog 47 #[.pointer (some ⟨p, 0, none⟩), .agg (blkL prev n).toArray] w fun e w' => e = .returned (.int .i64 270) ∧ Below w.heap.size w w' := by
  obtain ⟨W1, hW1⟩ : ∃ W1, W1 = w.alloc (.cells (blkL prev n).toArray 60) := ⟨_, rfl⟩
  obtain ⟨B, hB⟩ : ∃ B, B = w.heap.size := ⟨_, rfl⟩
  have hb1 : Below w.heap.size w W1 := hW1 ▸ (Below.refl _ _).alloc (Nat.le_refl _) _
  have HR : Hid (W1.heap[B]? = some (.cells (blkL prev n).toArray 60 (0, 0))) := Lib.hid (by rw [hW1, hB]; exact heap_alloc_new _ _)
  have HB1 := Lib.hid hb1
  have HW1 := Lib.hid hW1
  have HBE := Lib.hid hB
  have HPL := Lib.hid hpl
  have HP := Lib.hid hp
  have HP1 := Lib.hid (hp.below hb1)
  have HN := Lib.hid hn
  have HPW : Hid (p < w.heap.size) := Lib.hid (Array.getElem?_eq_some_iff.1 hp.row).1
  clear hp hn
  clear hb1 hW1 hB hpl
  go_enter Try.func47, Try.ntmps47
  go_upto_region 1 with (fail)
  change Code.wp Try.prog _ _ _ (w.alloc (.cells (blkL prev n).toArray 60))
  rw [← HW1.out, ← HBE.out]
  go_upto_region 3 with (go_at_call 93; refine (none_live W1 p c v most l HP1.out).mono ?_; rintro e w' ⟨rfl, rfl⟩)
  refine wp_region_lit ?_
  refine wpList_one (v := .pointer (some ⟨B, 0, none⟩)) (w' := W1) rfl (by kernel_rfl) ?_
  try (conv => lhs; change (Act.mk #[_,_,_,_,_,_,_,_,_,_,_,_,_,_,_,_,_,_,_,_,_,_,_,_,_,_,_,_,_,_,_,_,_,_,_,_] _))
  refine wpList_get rfl 57 (.tmp 8) rfl (A := ⟨B, 0, none⟩) rfl (blk_load57 HR.out HPL.out) ?_
  try (conv => lhs; change (Act.mk #[_,_,_,_,_,_,_,_,_,_,_,_,_,_,_,_,_,_,_,_,_,_,_,_,_,_,_,_,_,_,_,_,_,_,_,_] _))
  refine wpList_call rfl (f := 72) (args := #[.agg (hdrL prev n).toArray]) (by kernel_rfl) ((bhash_any prev n HPL.out HN.out W1).mono ?_)
  rintro e W2 ⟨rfl, hb2⟩
  refine ⟨_, rfl, ?_⟩
  try (conv => lhs; change (Act.mk #[_,_,_,_,_,_,_,_,_,_,_,_,_,_,_,_,_,_,_,_,_,_,_,_,_,_,_,_,_,_,_,_,_,_,_,_] _))
  refine wpList_one (v := .pointer (some ⟨W2.heap.size, 0, none⟩)) (w' := W2.alloc (.cells (bytesA (Sha.zeros 32)) 28)) rfl (by kernel_rfl) ?_
  try (conv => lhs; change (Act.mk #[_,_,_,_,_,_,_,_,_,_,_,_,_,_,_,_,_,_,_,_,_,_,_,_,_,_,_,_,_,_,_,_,_,_,_,_] _))
  refine wpList_put rfl 28 (.tmp 5) (.tmp 10) rfl (A := ⟨W2.heap.size, 0, none⟩) (v := .agg (bytesA (hh prev n))) rfl rfl (store28 (heap_alloc_new W2 _) (by rw [size_bytesA]; rfl) (hh_length _ _)) ?_
  try (conv => lhs; change (Act.mk #[_,_,_,_,_,_,_,_,_,_,_,_,_,_,_,_,_,_,_,_,_,_,_,_,_,_,_,_,_,_,_,_,_,_,_,_] _))
  rw [World.setRow_alloc_new]
  obtain ⟨W3, hW3⟩ : ∃ W3, W3 = W2.alloc (.cells (bytesA (hh prev n)) 28) := ⟨_, rfl⟩
  obtain ⟨q, hq⟩ : ∃ q, q = W2.heap.size := ⟨_, rfl⟩
  have hb3 : Below W2.heap.size W2 W3 := hW3 ▸ (Below.refl _ _).alloc (Nat.le_refl _) _
  have hb13 : Below W1.heap.size W1 W3 := hb2.trans (hb3.mono hb2.size)
  have HQ : Hid (W3.heap[q]? = some (.cells (bytesA (hh prev n)) 28 (0, 0))) := Lib.hid (by rw [hW3, hq]; exact heap_alloc_new _ _)
  have HQB : Hid (B < q) := Lib.hid (by have := (Array.getElem?_eq_some_iff.1 HR.out).1; have := hb2.size; omega)
  have HR := Lib.hid (block_below' hb13 HR.out)
  have HB3 := Lib.hid (HB1.out.trans (hb13.mono HB1.out.size))
  have HP3 := Lib.hid (HP1.out.below hb13)
  rw [← hW3, ← hq]
  clear hb2 hb3 hb13 hW3 hq
  go_upto_region 4 with (fail)
  refine wp_region_lit ?_
  refine wpList_one (v := .pointer (some ⟨p, 0, none⟩)) (w' := W3) rfl (by kernel_rfl) ?_
  try (conv => lhs; change (Act.mk #[_,_,_,_,_,_,_,_,_,_,_,_,_,_,_,_,_,_,_,_,_,_,_,_,_,_,_,_,_,_,_,_,_,_,_,_] _))
  refine wpList_get rfl 28 (.tmp 5) rfl (A := ⟨q, 0, none⟩) rfl (load28 HQ.out (hh_length _ _)) ?_
  try (conv => lhs; change (Act.mk #[_,_,_,_,_,_,_,_,_,_,_,_,_,_,_,_,_,_,_,_,_,_,_,_,_,_,_,_,_,_,_,_,_,_,_,_] _))
  refine wpList_call rfl (f := 96) (args := #[.pointer (some ⟨p, 0, none⟩), .agg (bytesA (hh prev n))]) (by kernel_rfl) ((at_any p c v most l (hh prev n) (hh_length _ _) W3 HP3.out).mono ?_)
  rintro e W4 ⟨rfl, hb4⟩
  refine ⟨_, rfl, ?_⟩
  try (conv => lhs; change (Act.mk #[_,_,_,_,_,_,_,_,_,_,_,_,_,_,_,_,_,_,_,_,_,_,_,_,_,_,_,_,_,_,_,_,_,_,_,_] _))
  refine wpList_one (w' := W4) rfl (geq_run (x := .tmp 13) rfl rfl) ?_
  try (conv => lhs; change (Act.mk #[_,_,_,_,_,_,_,_,_,_,_,_,_,_,_,_,_,_,_,_,_,_,_,_,_,_,_,_,_,_,_,_,_,_,_,_] _))
  have HQ := Lib.hid (block_below' hb4 HQ.out)
  have HR := Lib.hid (block_below' hb4 HR.out)
  have HB4 := Lib.hid (HB3.out.trans (hb4.mono HB3.out.size))
  have HP4 := Lib.hid (HP3.out.below hb4)
  clear hb4
  rw [decide_eq_false (by omega : ¬ 0 ≤ atL (hh prev n) l)]
  obtain ⟨hc0, hc1⟩ := HP4.out.cells
  go_upto_region 6 with (fail)
  refine wp_region_lit ?_
  refine wpList_one (v := .pointer (some ⟨p, 0, none⟩)) (w' := W4) rfl (by kernel_rfl) ?_
  try (conv => lhs; change (Act.mk #[_,_,_,_,_,_,_,_,_,_,_,_,_,_,_,_,_,_,_,_,_,_,_,_,_,_,_,_,_,_,_,_,_,_,_,_] _))
  refine wpList_one (v := .pointer (some ⟨p, 0, none⟩)) (w' := W4) rfl (by kernel_rfl) ?_
  try (conv => lhs; change (Act.mk #[_,_,_,_,_,_,_,_,_,_,_,_,_,_,_,_,_,_,_,_,_,_,_,_,_,_,_,_,_,_,_,_,_,_,_,_] _))
  refine wpList_one (v := .pointer (some ⟨p, 0, none⟩)) (w' := W4) rfl (by kernel_rfl) ?_
  try (conv => lhs; change (Act.mk #[_,_,_,_,_,_,_,_,_,_,_,_,_,_,_,_,_,_,_,_,_,_,_,_,_,_,_,_,_,_,_,_,_,_,_,_] _))
  refine wpList_get rfl 88 (.tmp 17) rfl (A := ⟨p, 0, none⟩) rfl (load88 hc0) ?_
  try (conv => lhs; change (Act.mk #[_,_,_,_,_,_,_,_,_,_,_,_,_,_,_,_,_,_,_,_,_,_,_,_,_,_,_,_,_,_,_,_,_,_,_,_] _))
  go_upto_region 7 with (fail)
  refine wp_region_lit ?_
  refine wpList_one (v := .agg #[]) (w' := W4) rfl (by kernel_rfl) ?_
  try (conv => lhs; change (Act.mk #[_,_,_,_,_,_,_,_,_,_,_,_,_,_,_,_,_,_,_,_,_,_,_,_,_,_,_,_,_,_,_,_,_,_,_,_] _))
  go_upto_region 8 with (fail)
  obtain ⟨s, r, hch⟩ := HP4.out.ch
  refine wp_region_from ?_
  change RegFrom _ _ _ [0, 1, 2] _ _
  refine RegFrom.full rfl rfl (select_run (x := .tmp 18) (y := .tmp 19) rfl rfl rfl) hch (by simp [hfull]) ?_
  try (conv => lhs; change (Act.mk #[_,_,_,_,_,_,_,_,_,_,_,_,_,_,_,_,_,_,_,_,_,_,_,_,_,_,_,_,_,_,_,_,_,_,_,_] _))
  refine RegFrom.value (v := .int .i64 (-1)) (w' := W4) rfl rfl (by kernel_rfl) ?_
  try (conv => lhs; change (Act.mk #[_,_,_,_,_,_,_,_,_,_,_,_,_,_,_,_,_,_,_,_,_,_,_,_,_,_,_,_,_,_,_,_,_,_,_,_] _))
  refine RegFrom.value (v := .bool false) (w' := W4) rfl rfl (by kernel_rfl) ?_
  try (conv => lhs; change (Act.mk #[_,_,_,_,_,_,_,_,_,_,_,_,_,_,_,_,_,_,_,_,_,_,_,_,_,_,_,_,_,_,_,_,_,_,_,_] _))
  refine RegFrom.plain ?_
  change Exit.then _ _ Exit.normal _ _
  go_wp2_with fail
  go_ret
  exact ⟨rfl, HB4.out⟩
end Go.Proofs.Ytdecbimklomdjaa
namespace Go.Proofs.Ytdecbimklomdjaa
open Go Go.RowKit Go.Shelf
theorem own_off {w : World} {b s n : Nat} {v : Value} {xs : List Value} (h : w.ownsRow b 139 s v n xs) {k : Nat} {o : Obj} (hk : w.heap[k]? = some o) (ht : ∀ cs fr, o ≠ .cells cs 139 fr) : v.ownBlock ≠ some k := by
  intro e
  rcases h.2 with ⟨rfl, _⟩ | ⟨g, cap, cur, rfl, _, hg, _⟩
  · cases e
  · have : g = k := Option.some.inj e
    subst this
    rw [hg] at hk
    cases hk
    exact ht _ _ rfl
theorem items_snoc (l : List (List UInt8 × Nat)) (prev : List UInt8) (n : Nat) : items (l ++ [(prev, n)]) = items l ++ oneL (hh prev n) prev n := by
  rw [items_append]; simp [items]
set_option maxRecDepth 100000 in
set_option maxHeartbeats 2000000 in
theorem put_room (p c : Nat) (v : Value) (most : Nat) (l : List (List UInt8 × Nat)) (prev : List UInt8) (n : Nat) (hpl : prev.length = 32) (hn : n < 4294967296) (hat : atL (hh prev n) l < 0) (hroom : l.length < most) (w : World) (hp : PoolAt w p c v most l) :
    Calls Try.prog 47 #[.pointer (some ⟨p, 0, none⟩), .agg (blkL prev n).toArray] w fun e w' => e = .returned (.int .i64 0) ∧ ∃ v', PoolAt w' p c v' most (l ++ [(prev, n)]) ∧ Moved p c v w v' w' := by
  obtain ⟨W1, hW1⟩ : ∃ W1, W1 = w.alloc (.cells (blkL prev n).toArray 60) := ⟨_, rfl⟩
  obtain ⟨B, hB⟩ : ∃ B, B = w.heap.size := ⟨_, rfl⟩
  have hb1 : Below w.heap.size w W1 := hW1 ▸ (Below.refl _ _).alloc (Nat.le_refl _) _
  have HR : Hid (W1.heap[B]? = some (.cells (blkL prev n).toArray 60 (0, 0))) := Lib.hid (by rw [hW1, hB]; exact heap_alloc_new _ _)
  have HB1 := Lib.hid hb1
  have HW1 := Lib.hid hW1
  have HBE := Lib.hid hB
  have HPL := Lib.hid hpl
  have HP := Lib.hid hp
  have HP1 := Lib.hid (hp.below hb1)
  have HN := Lib.hid hn
  have HPW : Hid (p < w.heap.size) := Lib.hid (Array.getElem?_eq_some_iff.1 hp.row).1
  clear hp hn
  clear hb1 hW1 hB hpl
  go_enter Try.func47, Try.ntmps47
  go_upto_region 1 with (fail)
  change Code.wp Try.prog _ _ _ (w.alloc (.cells (blkL prev n).toArray 60))
  rw [← HW1.out, ← HBE.out]
  go_upto_region 3 with (go_at_call 93; refine (none_live W1 p c v most l HP1.out).mono ?_; rintro e w' ⟨rfl, rfl⟩)
  refine wp_region_lit ?_
  refine wpList_one (v := .pointer (some ⟨B, 0, none⟩)) (w' := W1) rfl (by kernel_rfl) ?_
  try (conv => lhs; change (Act.mk #[_,_,_,_,_,_,_,_,_,_,_,_,_,_,_,_,_,_,_,_,_,_,_,_,_,_,_,_,_,_,_,_,_,_,_,_] _))
  refine wpList_get rfl 57 (.tmp 8) rfl (A := ⟨B, 0, none⟩) rfl (blk_load57 HR.out HPL.out) ?_
  try (conv => lhs; change (Act.mk #[_,_,_,_,_,_,_,_,_,_,_,_,_,_,_,_,_,_,_,_,_,_,_,_,_,_,_,_,_,_,_,_,_,_,_,_] _))
  refine wpList_call rfl (f := 72) (args := #[.agg (hdrL prev n).toArray]) (by kernel_rfl) ((bhash_any prev n HPL.out HN.out W1).mono ?_)
  rintro e W2 ⟨rfl, hb2⟩
  refine ⟨_, rfl, ?_⟩
  try (conv => lhs; change (Act.mk #[_,_,_,_,_,_,_,_,_,_,_,_,_,_,_,_,_,_,_,_,_,_,_,_,_,_,_,_,_,_,_,_,_,_,_,_] _))
  refine wpList_one (v := .pointer (some ⟨W2.heap.size, 0, none⟩)) (w' := W2.alloc (.cells (bytesA (Sha.zeros 32)) 28)) rfl (by kernel_rfl) ?_
  try (conv => lhs; change (Act.mk #[_,_,_,_,_,_,_,_,_,_,_,_,_,_,_,_,_,_,_,_,_,_,_,_,_,_,_,_,_,_,_,_,_,_,_,_] _))
  refine wpList_put rfl 28 (.tmp 5) (.tmp 10) rfl (A := ⟨W2.heap.size, 0, none⟩) (v := .agg (bytesA (hh prev n))) rfl rfl (store28 (heap_alloc_new W2 _) (by rw [size_bytesA]; rfl) (hh_length _ _)) ?_
  try (conv => lhs; change (Act.mk #[_,_,_,_,_,_,_,_,_,_,_,_,_,_,_,_,_,_,_,_,_,_,_,_,_,_,_,_,_,_,_,_,_,_,_,_] _))
  rw [World.setRow_alloc_new]
  obtain ⟨W3, hW3⟩ : ∃ W3, W3 = W2.alloc (.cells (bytesA (hh prev n)) 28) := ⟨_, rfl⟩
  obtain ⟨q, hq⟩ : ∃ q, q = W2.heap.size := ⟨_, rfl⟩
  have hb3 : Below W2.heap.size W2 W3 := hW3 ▸ (Below.refl _ _).alloc (Nat.le_refl _) _
  have hb13 : Below W1.heap.size W1 W3 := hb2.trans (hb3.mono hb2.size)
  have HQ : Hid (W3.heap[q]? = some (.cells (bytesA (hh prev n)) 28 (0, 0))) := Lib.hid (by rw [hW3, hq]; exact heap_alloc_new _ _)
  have HQB : Hid (B < q) := Lib.hid (by have := (Array.getElem?_eq_some_iff.1 HR.out).1; have := hb2.size; omega)
  have HR := Lib.hid (block_below' hb13 HR.out)
  have HB3 := Lib.hid (HB1.out.trans (hb13.mono HB1.out.size))
  have HP3 := Lib.hid (HP1.out.below hb13)
  rw [← hW3, ← hq]
  clear hb2 hb3 hb13 hW3 hq
  go_upto_region 4 with (fail)
  refine wp_region_lit ?_
  refine wpList_one (v := .pointer (some ⟨p, 0, none⟩)) (w' := W3) rfl (by kernel_rfl) ?_
  try (conv => lhs; change (Act.mk #[_,_,_,_,_,_,_,_,_,_,_,_,_,_,_,_,_,_,_,_,_,_,_,_,_,_,_,_,_,_,_,_,_,_,_,_] _))
  refine wpList_get rfl 28 (.tmp 5) rfl (A := ⟨q, 0, none⟩) rfl (load28 HQ.out (hh_length _ _)) ?_
  try (conv => lhs; change (Act.mk #[_,_,_,_,_,_,_,_,_,_,_,_,_,_,_,_,_,_,_,_,_,_,_,_,_,_,_,_,_,_,_,_,_,_,_,_] _))
  refine wpList_call rfl (f := 96) (args := #[.pointer (some ⟨p, 0, none⟩), .agg (bytesA (hh prev n))]) (by kernel_rfl) ((at_any p c v most l (hh prev n) (hh_length _ _) W3 HP3.out).mono ?_)
  rintro e W4 ⟨rfl, hb4⟩
  refine ⟨_, rfl, ?_⟩
  try (conv => lhs; change (Act.mk #[_,_,_,_,_,_,_,_,_,_,_,_,_,_,_,_,_,_,_,_,_,_,_,_,_,_,_,_,_,_,_,_,_,_,_,_] _))
  refine wpList_one (w' := W4) rfl (geq_run (x := .tmp 13) rfl rfl) ?_
  try (conv => lhs; change (Act.mk #[_,_,_,_,_,_,_,_,_,_,_,_,_,_,_,_,_,_,_,_,_,_,_,_,_,_,_,_,_,_,_,_,_,_,_,_] _))
  have HQ := Lib.hid (block_below' hb4 HQ.out)
  have HR := Lib.hid (block_below' hb4 HR.out)
  have HB4 := Lib.hid (HB3.out.trans (hb4.mono HB3.out.size))
  have HP4 := Lib.hid (HP3.out.below hb4)
  clear hb4
  rw [decide_eq_false (by omega : ¬ 0 ≤ atL (hh prev n) l)]
  obtain ⟨hc0, hc1⟩ := HP4.out.cells
  go_upto_region 6 with (fail)
  refine wp_region_lit ?_
  refine wpList_one (v := .pointer (some ⟨p, 0, none⟩)) (w' := W4) rfl (by kernel_rfl) ?_
  try (conv => lhs; change (Act.mk #[_,_,_,_,_,_,_,_,_,_,_,_,_,_,_,_,_,_,_,_,_,_,_,_,_,_,_,_,_,_,_,_,_,_,_,_] _))
  refine wpList_one (v := .pointer (some ⟨p, 0, none⟩)) (w' := W4) rfl (by kernel_rfl) ?_
  try (conv => lhs; change (Act.mk #[_,_,_,_,_,_,_,_,_,_,_,_,_,_,_,_,_,_,_,_,_,_,_,_,_,_,_,_,_,_,_,_,_,_,_,_] _))
  refine wpList_one (v := .pointer (some ⟨p, 0, none⟩)) (w' := W4) rfl (by kernel_rfl) ?_
  try (conv => lhs; change (Act.mk #[_,_,_,_,_,_,_,_,_,_,_,_,_,_,_,_,_,_,_,_,_,_,_,_,_,_,_,_,_,_,_,_,_,_,_,_] _))
  refine wpList_get rfl 88 (.tmp 17) rfl (A := ⟨p, 0, none⟩) rfl (load88 hc0) ?_
  try (conv => lhs; change (Act.mk #[_,_,_,_,_,_,_,_,_,_,_,_,_,_,_,_,_,_,_,_,_,_,_,_,_,_,_,_,_,_,_,_,_,_,_,_] _))
  go_upto_region 7 with (fail)
  refine wp_region_lit ?_
  refine wpList_one (v := .agg #[]) (w' := W4) rfl (by kernel_rfl) ?_
  try (conv => lhs; change (Act.mk #[_,_,_,_,_,_,_,_,_,_,_,_,_,_,_,_,_,_,_,_,_,_,_,_,_,_,_,_,_,_,_,_,_,_,_,_] _))
  go_upto_region 8 with (fail)
  obtain ⟨s, r, hch⟩ := HP4.out.ch
  refine wp_region_from ?_
  change RegFrom _ _ _ [0, 1, 2] _ _
  refine RegFrom.room rfl rfl (select_run (x := .tmp 18) (y := .tmp 19) rfl rfl rfl) hch (by simpa using hroom) ?_
  try (conv => lhs; change (Act.mk #[_,_,_,_,_,_,_,_,_,_,_,_,_,_,_,_,_,_,_,_,_,_,_,_,_,_,_,_,_,_,_,_,_,_,_,_] _))
  obtain ⟨W5, hW5⟩ : ∃ W5, W5 = W4.setChan c most ((Array.replicate l.length (.agg #[])).push (.agg #[])) false (s + 1) r false := ⟨_, rfl⟩
  rw [← hW5]
  have hch5 : W5.heap[c]? = some (.chan most (Array.replicate (l.length + 1) (.agg #[])) false (s + 1) r false) := by
    rw [hW5, Conc.heap_setChan _ _ _ _ _ _ _ _ (Array.getElem?_eq_some_iff.1 hch).1, Array.replicate_succ]
  have hk5 : ∀ k, k ≠ c → W5.heap[k]? = W4.heap[k]? := fun k hk => hW5 ▸ setChan_ne _ _ _ _ _ _ _ hk
  have hz5 : W5.heap.size = W4.heap.size := by rw [hW5, Conc.size_setChan]
  have hos5 : W5.os = w.os ∧ W5.output = w.output := by rw [hW5]; exact ⟨HB4.out.os, HB4.out.output⟩
  have hcr : ∀ k cs t fr, W4.heap[k]? = some (.cells cs t fr) → k ≠ c := by
    rintro k cs t fr hk rfl
    rw [hk] at hch; cases hch
  refine RegFrom.value (v := .int .i64 0) (w' := W5) rfl rfl (by kernel_rfl) ?_
  try (conv => lhs; change (Act.mk #[_,_,_,_,_,_,_,_,_,_,_,_,_,_,_,_,_,_,_,_,_,_,_,_,_,_,_,_,_,_,_,_,_,_,_,_] _))
  refine RegFrom.value (v := .bool true) (w' := W5) rfl rfl (by kernel_rfl) ?_
  try (conv => lhs; change (Act.mk #[_,_,_,_,_,_,_,_,_,_,_,_,_,_,_,_,_,_,_,_,_,_,_,_,_,_,_,_,_,_,_,_,_,_,_,_] _))
  refine RegFrom.plain ?_
  change Exit.then _ _ Exit.normal _ _
  have HQ5 := Lib.hid ((hk5 q (hcr _ _ _ _ HQ.out)).trans HQ.out)
  have HR5 := Lib.hid ((hk5 B (hcr _ _ _ _ HR.out)).trans HR.out)
  have HRow := Lib.hid ((hk5 p (hcr _ _ _ _ HP4.out.row)).trans HP4.out.row)
  have HCH := Lib.hid hch5
  have HOW := Lib.hid (own_of_block HP4.out.own (b := 0) (fun k hk => hk5 k (fun e => HP4.out.offc (by rw [← e]; exact hk))) (Nat.le_refl _))
  have HM5 : Hid (Moved p c v w v W5) := Lib.hid ⟨by rw [hz5]; exact HB4.out.size, fun i h1 h2 h3 h4 => (hk5 i h3).trans (HB4.out.block i h1), .inl rfl, hos5⟩
  clear hch5 hk5 hz5 hcr hch hW5 hc0 hc1
  go_upto_region 10 with (fail)
  refine wp_region_held_drew (S := (fun w' => w'.heap[q]? = some (.cells (bytesA (hh prev n)) 28 (0, 0)) ∧ w'.heap[B]? = some (.cells (blkL prev n).toArray 60 (0, 0)))) (by kernel_rfl) ⟨HQ5.out, HR5.out⟩ (fun hS => ?_)
  obtain ⟨W6, hW6⟩ : ∃ W6, W6 = W5.drew := ⟨_, rfl⟩
  have hb6 : Below W5.heap.size W5 W6 := hW6 ▸ (Below.refl _ _).drew
  rw [← hW6]
  have hS0 := hS
  rw [← hW6] at hS
  have HRow := Lib.hid (block_below' hb6 HRow.out)
  have HCH := Lib.hid (block_below' hb6 HCH.out)
  have HOW := Lib.hid (HOW.out.kept (grownBy_of_below hb6 none) (own_some v))
  have HM6 := Lib.hid (HM5.out.below hb6)
  clear hb6 hW6 hS0 HQ5 HR5 HM5
  try (conv => lhs; change (Act.mk #[_,_,_,_,_,_,_,_,_,_,_,_,_,_,_,_,_,_,_,_,_,_,_,_,_,_,_,_,_,_,_,_,_,_,_,_] _))
  refine wpAnyH_take (i := 0) (v := ?_) rfl (by kernel_rfl) (by kernel_rfl) (by kernel_rfl) (fun _ _ _ h => h) (held_pure rfl ?_) hS ?_
  rotate_left
  · intro w; go_simp; all_goals rfl
  rotate_left
  refine wpAnyH_take (i := 1) (v := ?_) rfl (by kernel_rfl) (by kernel_rfl) (by kernel_rfl) (fun _ _ _ h => h) (held_pure rfl ?_) hS ?_
  rotate_left
  · intro w; go_simp; all_goals rfl
  rotate_left
  refine wpAnyH_take (i := 2) (v := ?_) rfl (by kernel_rfl) (by kernel_rfl) (by kernel_rfl) (fun _ _ _ h => h) (held_pure rfl ?_) hS ?_
  rotate_left
  · intro w; go_simp; all_goals rfl
  rotate_left
  refine wpAnyH_take (i := 3) (v := ?_) rfl (by kernel_rfl) (by kernel_rfl) (by kernel_rfl) (fun _ _ _ h => h) (held_pure rfl ?_) hS ?_
  rotate_left
  · intro w; go_simp; all_goals rfl
  rotate_left
  refine wpAnyH_take (i := 5) (v := .agg (bytesA (hh prev n))) rfl (by kernel_rfl) (by kernel_rfl) (by kernel_rfl) (fun _ _ _ h => h) (held_load rfl 28 (.tmp 5) rfl (A := ⟨q, 0, none⟩) rfl (fun w hw => load28 hw.1 (hh_length _ _))) hS ?_
  try (conv => lhs; change (Act.mk #[_,_,_,_,_,_,_,_,_,_,_,_,_,_,_,_,_,_,_,_,_,_,_,_,_,_,_,_,_,_,_,_,_,_,_,_] _))
  refine wpAnyH_take (i := 6) (v := .agg (blkL prev n).toArray) rfl (by kernel_rfl) (by kernel_rfl) (by kernel_rfl) (fun _ _ _ h => h) (held_load rfl 60 (.tmp 3) rfl (A := ⟨B, 0, none⟩) rfl (fun w hw => blk_load60 hw.2 HPL.out)) hS ?_
  try (conv => lhs; change (Act.mk #[_,_,_,_,_,_,_,_,_,_,_,_,_,_,_,_,_,_,_,_,_,_,_,_,_,_,_,_,_,_,_,_,_,_,_,_] _))
  refine wpAnyH_ready (rs := [4, 7]) (by kernel_rfl) (by simp) ?_
  refine AllReadyH.cons rfl (fun K hK => ?_) (AllReadyH.cons rfl (fun K hK => ?_) AllReadyH.nil)
  · refine step_load rfl 89 (.tmp 26) rfl (A := ⟨p, 1, none⟩) rfl (load89 (cell_of_row _ _ _ _ _ _ HRow.out)) ?_
    refine hK.out _ _ hS (fun hS => ?_); clear hK K
    try (conv => lhs; change (Act.mk #[_,_,_,_,_,_,_,_,_,_,_,_,_,_,_,_,_,_,_,_,_,_,_,_,_,_,_,_,_,_,_,_,_,_,_,_] _))
    refine wpAnyH_ready (rs := [7]) (by kernel_rfl) (by simp) ?_
    refine AllReadyH.cons rfl (fun K hK => ?_) AllReadyH.nil
    go_simp
    refine (bcopy_any prev n HPL.out W6).mono ?_
    rintro e W7 ⟨rfl, hb⟩
    have HRow := Lib.hid (block_below' hb HRow.out)
    have HCH := Lib.hid (block_below' hb HCH.out)
    have HOW := Lib.hid (HOW.out.kept (grownBy_of_below hb none) (own_some v))
    have HM6 := Lib.hid (HM6.out.below hb)
    have hSn := And.intro (block_below' hb hS.1) (block_below' hb hS.2)
    clear hb
    refine hK.out _ _ hSn (fun hS => ?_); clear hK K
    try (conv => lhs; change (Act.mk #[_,_,_,_,_,_,_,_,_,_,_,_,_,_,_,_,_,_,_,_,_,_,_,_,_,_,_,_,_,_,_,_,_,_,_,_] _))
    clear hSn
    refine wpAnyH_take (i := 8) (v := .agg (oneL (hh prev n) prev n).toArray) rfl (by kernel_rfl) (by kernel_rfl) (by kernel_rfl) (fun _ _ _ h => h) (held_pure rfl (fun w => built_run (x := .tmp 28) (y := .tmp 30) rfl rfl rfl (built139 _ prev n (hh_length _ _) HPL.out))) hS ?_
    try (conv => lhs; change (Act.mk #[_,_,_,_,_,_,_,_,_,_,_,_,_,_,_,_,_,_,_,_,_,_,_,_,_,_,_,_,_,_,_,_,_,_,_,_] _))
    refine wpAnyH_ready (rs := [9]) (by kernel_rfl) (by simp) ?_
    refine AllReadyH.cons rfl (fun K hK => ?_) AllReadyH.nil
    refine step_val rfl (.slice (some ⟨W7.heap.size, 0, none⟩) 1 1) (buildS_run (x := .tmp 31) rfl rfl (run_buildTo 89 139 1 #[(0, .agg (oneL (hh prev n) prev n).toArray)] Try.underlying89 (fill139 _ prev n (hh_length _ _) HPL.out))) ?_
    obtain ⟨W8, hWn⟩ : ∃ W', W' = W7.alloc (.cells (oneL (hh prev n) prev n).toArray 139) := ⟨_, rfl⟩
    obtain ⟨g, hg⟩ : ∃ g, g = W7.heap.size := ⟨_, rfl⟩
    have hb : Below W7.heap.size W7 W8 := hWn ▸ (Below.refl _ _).alloc (Nat.le_refl _) _
    have HG : Hid (W8.heap[g]? = some (.cells (oneL (hh prev n) prev n).toArray 139 (0, 0))) := Lib.hid (by rw [hWn, hg]; exact heap_alloc_new _ _)
    rw [← hWn, ← hg]
    have HRow := Lib.hid (block_below' hb HRow.out)
    have HCH := Lib.hid (block_below' hb HCH.out)
    have HOW := Lib.hid (HOW.out.kept (grownBy_of_below hb none) (own_some v))
    have HM6 := Lib.hid (HM6.out.below hb)
    have hSn := And.intro (block_below' hb hS.1) (block_below' hb hS.2)
    clear hb hWn hg
    refine hK.out _ _ hSn (fun hS => ?_); clear hK K
    try (conv => lhs; change (Act.mk #[_,_,_,_,_,_,_,_,_,_,_,_,_,_,_,_,_,_,_,_,_,_,_,_,_,_,_,_,_,_,_,_,_,_,_,_] _))
    clear hSn
    refine wpAnyH_ready (rs := [10]) (by kernel_rfl) (by simp) ?_
    refine AllReadyH.cons rfl (fun K hK => ?_) AllReadyH.nil
    obtain ⟨v', W9, hrun, hown9, hgr9, hrow9⟩ := append_row W8 89 v l.length (items l) HOW.out (Nat.le_trans HP.out.fits HP.out.most) g (oneL (hh prev n) prev n) (oneL_length _ _ _ (hh_length _ _) HPL.out) (fun j u hu => by rw [add_row, cell_of_row _ _ _ _ _ _ HG.out, List.getElem?_toArray]; exact hu) (one_one _ _ _)
    refine step_val rfl v' (append_run (x := .tmp 27) (y := .tmp 32) rfl rfl rfl hrun) ?_
    obtain ⟨va, vc, rfl⟩ := own_slice hown9
    have hvp := HP.out.offp
    have hvc := HP.out.offc
    have hvq := own_off HOW.out hS.1 (fun _ _ h => by cases h)
    have hvB := own_off HOW.out hS.2 (fun _ _ h => by cases h)
    have hk9 : ∀ k o, W8.heap[k]? = some o → v.ownBlock ≠ some k → W9.heap[k]? = some o := fun k o h h2 => (hgr9.block k (Array.getElem?_eq_some_iff.1 h).1 (Ne.symm h2)).trans h
    have HRow := Lib.hid (hk9 _ _ HRow.out hvp)
    have HCH := Lib.hid (hk9 _ _ HCH.out hvc)
    have HM9 : Hid (Moved p c v w (.slice va (l.length + 1) vc) W9) := Lib.hid (HM6.out.trans ⟨hgr9.size, fun i h1 _ _ h4 => hgr9.block i h1 (Ne.symm h4), hrow9, hgr9.os, hgr9.output⟩)
    have hSn := And.intro (hk9 _ _ hS.1 hvq) (hk9 _ _ hS.2 hvB)
    have HOW9 := Lib.hid hown9
    clear hk9 hvp hvc hvq hvB hown9 hgr9 hrow9 hrun
    refine hK.out _ _ hSn (fun hS => ?_); clear hK K
    try (conv => lhs; change (Act.mk #[_,_,_,_,_,_,_,_,_,_,_,_,_,_,_,_,_,_,_,_,_,_,_,_,_,_,_,_,_,_,_,_,_,_,_,_] _))
    clear hSn
    refine wpAnyH_take (i := 11) (v := ?_) rfl (by kernel_rfl) (by kernel_rfl) (by kernel_rfl) (fun _ _ _ h => h) (held_pure rfl ?_) hS ?_
    rotate_left
    · intro w; go_simp; all_goals rfl
    rotate_left
    refine wpAnyH_take (i := 12) (v := ?_) rfl (by kernel_rfl) (by kernel_rfl) (by kernel_rfl) (fun _ _ _ h => h) (held_pure rfl ?_) hS ?_
    rotate_left
    · intro w; go_simp; all_goals rfl
    rotate_left
    refine wpAnyH_ready (rs := [13]) (by kernel_rfl) (by simp) ?_
    refine AllReadyH.cons rfl (fun K hK => ?_) AllReadyH.nil
    have hcp := cell_of_row W9 p 1 _ _ _ HRow.out
    have hfp := frozen_of_row W9 p 1 _ _ HRow.out
    refine step_store rfl 89 (.tmp 35) (.tmp 33) rfl (A := ⟨p, 1, none⟩) (v := .slice va (l.length + 1) vc) rfl rfl (store89 hcp hfp) ?_
    clear hcp hfp
    obtain ⟨W10, hW10⟩ : ∃ W', W' = W9.setCell ⟨p, 1, none⟩ (.slice va (l.length + 1) vc) := ⟨_, rfl⟩
    rw [← hW10]
    have hk10 : ∀ k, k ≠ p → W10.heap[k]? = W9.heap[k]? := fun k hk => hW10 ▸ heap_setCell_other _ _ _ _ hk
    have hr10 : W10.heap[p]? = some (.cells #[.chan (some c), .slice va (l.length + 1) vc] 91 (0, 0)) := hW10 ▸ (heap_setCell_same _ _ _ _ _ _ HRow.out).trans rfl
    have hz10 : W10.heap.size = W9.heap.size := by rw [hW10]; simp
    have hqp : q ≠ p := by rintro rfl; have h := HRow.out; rw [hS.1] at h; simp at h
    have hBp : B ≠ p := by rintro rfl; have h := HRow.out; rw [hS.2] at h; simp at h
    have hSn := And.intro ((hk10 q hqp).trans hS.1) ((hk10 B hBp).trans hS.2)
    have HK10 := Lib.hid hk10
    have HR10 := Lib.hid hr10
    have HZ10 := Lib.hid hz10
    have HOS10 : Hid (W10.os = W9.os ∧ W10.output = W9.output) := Lib.hid (by rw [hW10]; exact ⟨rfl, rfl⟩)
    have HCP : Hid (c ≠ p) := Lib.hid (pool_cp HP.out)
    clear hk10 hr10 hz10 hqp hBp hW10
    refine hK.out _ _ hSn (fun hS => ?_); clear hK K
    try (conv => lhs; change (Act.mk #[_,_,_,_,_,_,_,_,_,_,_,_,_,_,_,_,_,_,_,_,_,_,_,_,_,_,_,_,_,_,_,_,_,_,_,_] _))
    clear hSn
    refine wpAnyH_done (by kernel_rfl) ?_ _
    go_wp2_with fail
    go_ret
    have hop := own_off HOW9.out HRow.out (fun _ _ h => by cases h)
    have hoc := own_off HOW9.out HCH.out (fun _ _ h => by cases h)
    refine ⟨rfl, .slice va (l.length + 1) vc, ⟨HR10.out, ⟨s + 1, r, by rw [List.length_append]; exact (HK10.out c HCP.out).trans HCH.out⟩, ?_, hop, hoc, ?_, by rw [List.length_append]; exact hroom, HP.out.most⟩, HM9.out.trans ⟨Nat.le_of_eq HZ10.out.symm, fun i _ h2 _ _ => HK10.out i h2, .inl rfl, HOS10.out⟩⟩
    · rw [items_snoc, List.length_append]
      exact own_of_block HOW9.out (fun k hk => HK10.out k (fun e => hop (by rw [← e]; exact hk))) (Nat.le_refl _)
    · intro b hb
      rcases List.mem_append.1 hb with hb | hb
      · exact HP.out.lens b hb
      · have : b = (prev, n) := by simpa using hb
        subst this
        exact ⟨HPL.out, HN.out⟩
  · go_simp
    refine (bcopy_any prev n HPL.out W6).mono ?_
    rintro e W7 ⟨rfl, hb⟩
    have HRow := Lib.hid (block_below' hb HRow.out)
    have HCH := Lib.hid (block_below' hb HCH.out)
    have HOW := Lib.hid (HOW.out.kept (grownBy_of_below hb none) (own_some v))
    have HM6 := Lib.hid (HM6.out.below hb)
    have hSn := And.intro (block_below' hb hS.1) (block_below' hb hS.2)
    clear hb
    refine hK.out _ _ hSn (fun hS => ?_); clear hK K
    try (conv => lhs; change (Act.mk #[_,_,_,_,_,_,_,_,_,_,_,_,_,_,_,_,_,_,_,_,_,_,_,_,_,_,_,_,_,_,_,_,_,_,_,_] _))
    clear hSn
    refine wpAnyH_take (i := 8) (v := .agg (oneL (hh prev n) prev n).toArray) rfl (by kernel_rfl) (by kernel_rfl) (by kernel_rfl) (fun _ _ _ h => h) (held_pure rfl (fun w => built_run (x := .tmp 28) (y := .tmp 30) rfl rfl rfl (built139 _ prev n (hh_length _ _) HPL.out))) hS ?_
    try (conv => lhs; change (Act.mk #[_,_,_,_,_,_,_,_,_,_,_,_,_,_,_,_,_,_,_,_,_,_,_,_,_,_,_,_,_,_,_,_,_,_,_,_] _))
    refine wpAnyH_ready (rs := [4, 9]) (by kernel_rfl) (by simp) ?_
    refine AllReadyH.cons rfl (fun K hK => ?_) (AllReadyH.cons rfl (fun K hK => ?_) AllReadyH.nil)
    · refine step_load rfl 89 (.tmp 26) rfl (A := ⟨p, 1, none⟩) rfl (load89 (cell_of_row _ _ _ _ _ _ HRow.out)) ?_
      refine hK.out _ _ hS (fun hS => ?_); clear hK K
      try (conv => lhs; change (Act.mk #[_,_,_,_,_,_,_,_,_,_,_,_,_,_,_,_,_,_,_,_,_,_,_,_,_,_,_,_,_,_,_,_,_,_,_,_] _))
      refine wpAnyH_ready (rs := [9]) (by kernel_rfl) (by simp) ?_
      refine AllReadyH.cons rfl (fun K hK => ?_) AllReadyH.nil
      refine step_val rfl (.slice (some ⟨W7.heap.size, 0, none⟩) 1 1) (buildS_run (x := .tmp 31) rfl rfl (run_buildTo 89 139 1 #[(0, .agg (oneL (hh prev n) prev n).toArray)] Try.underlying89 (fill139 _ prev n (hh_length _ _) HPL.out))) ?_
      obtain ⟨W8, hWn⟩ : ∃ W', W' = W7.alloc (.cells (oneL (hh prev n) prev n).toArray 139) := ⟨_, rfl⟩
      obtain ⟨g, hg⟩ : ∃ g, g = W7.heap.size := ⟨_, rfl⟩
      have hb : Below W7.heap.size W7 W8 := hWn ▸ (Below.refl _ _).alloc (Nat.le_refl _) _
      have HG : Hid (W8.heap[g]? = some (.cells (oneL (hh prev n) prev n).toArray 139 (0, 0))) := Lib.hid (by rw [hWn, hg]; exact heap_alloc_new _ _)
      rw [← hWn, ← hg]
      have HRow := Lib.hid (block_below' hb HRow.out)
      have HCH := Lib.hid (block_below' hb HCH.out)
      have HOW := Lib.hid (HOW.out.kept (grownBy_of_below hb none) (own_some v))
      have HM6 := Lib.hid (HM6.out.below hb)
      have hSn := And.intro (block_below' hb hS.1) (block_below' hb hS.2)
      clear hb hWn hg
      refine hK.out _ _ hSn (fun hS => ?_); clear hK K
      try (conv => lhs; change (Act.mk #[_,_,_,_,_,_,_,_,_,_,_,_,_,_,_,_,_,_,_,_,_,_,_,_,_,_,_,_,_,_,_,_,_,_,_,_] _))
      clear hSn
      refine wpAnyH_ready (rs := [10]) (by kernel_rfl) (by simp) ?_
      refine AllReadyH.cons rfl (fun K hK => ?_) AllReadyH.nil
      obtain ⟨v', W9, hrun, hown9, hgr9, hrow9⟩ := append_row W8 89 v l.length (items l) HOW.out (Nat.le_trans HP.out.fits HP.out.most) g (oneL (hh prev n) prev n) (oneL_length _ _ _ (hh_length _ _) HPL.out) (fun j u hu => by rw [add_row, cell_of_row _ _ _ _ _ _ HG.out, List.getElem?_toArray]; exact hu) (one_one _ _ _)
      refine step_val rfl v' (append_run (x := .tmp 27) (y := .tmp 32) rfl rfl rfl hrun) ?_
      obtain ⟨va, vc, rfl⟩ := own_slice hown9
      have hvp := HP.out.offp
      have hvc := HP.out.offc
      have hvq := own_off HOW.out hS.1 (fun _ _ h => by cases h)
      have hvB := own_off HOW.out hS.2 (fun _ _ h => by cases h)
      have hk9 : ∀ k o, W8.heap[k]? = some o → v.ownBlock ≠ some k → W9.heap[k]? = some o := fun k o h h2 => (hgr9.block k (Array.getElem?_eq_some_iff.1 h).1 (Ne.symm h2)).trans h
      have HRow := Lib.hid (hk9 _ _ HRow.out hvp)
      have HCH := Lib.hid (hk9 _ _ HCH.out hvc)
      have HM9 : Hid (Moved p c v w (.slice va (l.length + 1) vc) W9) := Lib.hid (HM6.out.trans ⟨hgr9.size, fun i h1 _ _ h4 => hgr9.block i h1 (Ne.symm h4), hrow9, hgr9.os, hgr9.output⟩)
      have hSn := And.intro (hk9 _ _ hS.1 hvq) (hk9 _ _ hS.2 hvB)
      have HOW9 := Lib.hid hown9
      clear hk9 hvp hvc hvq hvB hown9 hgr9 hrow9 hrun
      refine hK.out _ _ hSn (fun hS => ?_); clear hK K
      try (conv => lhs; change (Act.mk #[_,_,_,_,_,_,_,_,_,_,_,_,_,_,_,_,_,_,_,_,_,_,_,_,_,_,_,_,_,_,_,_,_,_,_,_] _))
      clear hSn
      refine wpAnyH_take (i := 11) (v := ?_) rfl (by kernel_rfl) (by kernel_rfl) (by kernel_rfl) (fun _ _ _ h => h) (held_pure rfl ?_) hS ?_
      rotate_left
      · intro w; go_simp; all_goals rfl
      rotate_left
      refine wpAnyH_take (i := 12) (v := ?_) rfl (by kernel_rfl) (by kernel_rfl) (by kernel_rfl) (fun _ _ _ h => h) (held_pure rfl ?_) hS ?_
      rotate_left
      · intro w; go_simp; all_goals rfl
      rotate_left
      refine wpAnyH_ready (rs := [13]) (by kernel_rfl) (by simp) ?_
      refine AllReadyH.cons rfl (fun K hK => ?_) AllReadyH.nil
      have hcp := cell_of_row W9 p 1 _ _ _ HRow.out
      have hfp := frozen_of_row W9 p 1 _ _ HRow.out
      refine step_store rfl 89 (.tmp 35) (.tmp 33) rfl (A := ⟨p, 1, none⟩) (v := .slice va (l.length + 1) vc) rfl rfl (store89 hcp hfp) ?_
      clear hcp hfp
      obtain ⟨W10, hW10⟩ : ∃ W', W' = W9.setCell ⟨p, 1, none⟩ (.slice va (l.length + 1) vc) := ⟨_, rfl⟩
      rw [← hW10]
      have hk10 : ∀ k, k ≠ p → W10.heap[k]? = W9.heap[k]? := fun k hk => hW10 ▸ heap_setCell_other _ _ _ _ hk
      have hr10 : W10.heap[p]? = some (.cells #[.chan (some c), .slice va (l.length + 1) vc] 91 (0, 0)) := hW10 ▸ (heap_setCell_same _ _ _ _ _ _ HRow.out).trans rfl
      have hz10 : W10.heap.size = W9.heap.size := by rw [hW10]; simp
      have hqp : q ≠ p := by rintro rfl; have h := HRow.out; rw [hS.1] at h; simp at h
      have hBp : B ≠ p := by rintro rfl; have h := HRow.out; rw [hS.2] at h; simp at h
      have hSn := And.intro ((hk10 q hqp).trans hS.1) ((hk10 B hBp).trans hS.2)
      have HK10 := Lib.hid hk10
      have HR10 := Lib.hid hr10
      have HZ10 := Lib.hid hz10
      have HOS10 : Hid (W10.os = W9.os ∧ W10.output = W9.output) := Lib.hid (by rw [hW10]; exact ⟨rfl, rfl⟩)
      have HCP : Hid (c ≠ p) := Lib.hid (pool_cp HP.out)
      clear hk10 hr10 hz10 hqp hBp hW10
      refine hK.out _ _ hSn (fun hS => ?_); clear hK K
      try (conv => lhs; change (Act.mk #[_,_,_,_,_,_,_,_,_,_,_,_,_,_,_,_,_,_,_,_,_,_,_,_,_,_,_,_,_,_,_,_,_,_,_,_] _))
      clear hSn
      refine wpAnyH_done (by kernel_rfl) ?_ _
      go_wp2_with fail
      go_ret
      have hop := own_off HOW9.out HRow.out (fun _ _ h => by cases h)
      have hoc := own_off HOW9.out HCH.out (fun _ _ h => by cases h)
      refine ⟨rfl, .slice va (l.length + 1) vc, ⟨HR10.out, ⟨s + 1, r, by rw [List.length_append]; exact (HK10.out c HCP.out).trans HCH.out⟩, ?_, hop, hoc, ?_, by rw [List.length_append]; exact hroom, HP.out.most⟩, HM9.out.trans ⟨Nat.le_of_eq HZ10.out.symm, fun i _ h2 _ _ => HK10.out i h2, .inl rfl, HOS10.out⟩⟩
      · rw [items_snoc, List.length_append]
        exact own_of_block HOW9.out (fun k hk => HK10.out k (fun e => hop (by rw [← e]; exact hk))) (Nat.le_refl _)
      · intro b hb
        rcases List.mem_append.1 hb with hb | hb
        · exact HP.out.lens b hb
        · have : b = (prev, n) := by simpa using hb
          subst this
          exact ⟨HPL.out, HN.out⟩
    · refine step_val rfl (.slice (some ⟨W7.heap.size, 0, none⟩) 1 1) (buildS_run (x := .tmp 31) rfl rfl (run_buildTo 89 139 1 #[(0, .agg (oneL (hh prev n) prev n).toArray)] Try.underlying89 (fill139 _ prev n (hh_length _ _) HPL.out))) ?_
      obtain ⟨W8, hWn⟩ : ∃ W', W' = W7.alloc (.cells (oneL (hh prev n) prev n).toArray 139) := ⟨_, rfl⟩
      obtain ⟨g, hg⟩ : ∃ g, g = W7.heap.size := ⟨_, rfl⟩
      have hb : Below W7.heap.size W7 W8 := hWn ▸ (Below.refl _ _).alloc (Nat.le_refl _) _
      have HG : Hid (W8.heap[g]? = some (.cells (oneL (hh prev n) prev n).toArray 139 (0, 0))) := Lib.hid (by rw [hWn, hg]; exact heap_alloc_new _ _)
      rw [← hWn, ← hg]
      have HRow := Lib.hid (block_below' hb HRow.out)
      have HCH := Lib.hid (block_below' hb HCH.out)
      have HOW := Lib.hid (HOW.out.kept (grownBy_of_below hb none) (own_some v))
      have HM6 := Lib.hid (HM6.out.below hb)
      have hSn := And.intro (block_below' hb hS.1) (block_below' hb hS.2)
      clear hb hWn hg
      refine hK.out _ _ hSn (fun hS => ?_); clear hK K
      try (conv => lhs; change (Act.mk #[_,_,_,_,_,_,_,_,_,_,_,_,_,_,_,_,_,_,_,_,_,_,_,_,_,_,_,_,_,_,_,_,_,_,_,_] _))
      clear hSn
      refine wpAnyH_ready (rs := [4]) (by kernel_rfl) (by simp) ?_
      refine AllReadyH.cons rfl (fun K hK => ?_) AllReadyH.nil
      refine step_load rfl 89 (.tmp 26) rfl (A := ⟨p, 1, none⟩) rfl (load89 (cell_of_row _ _ _ _ _ _ HRow.out)) ?_
      refine hK.out _ _ hS (fun hS => ?_); clear hK K
      try (conv => lhs; change (Act.mk #[_,_,_,_,_,_,_,_,_,_,_,_,_,_,_,_,_,_,_,_,_,_,_,_,_,_,_,_,_,_,_,_,_,_,_,_] _))
      refine wpAnyH_ready (rs := [10]) (by kernel_rfl) (by simp) ?_
      refine AllReadyH.cons rfl (fun K hK => ?_) AllReadyH.nil
      obtain ⟨v', W9, hrun, hown9, hgr9, hrow9⟩ := append_row W8 89 v l.length (items l) HOW.out (Nat.le_trans HP.out.fits HP.out.most) g (oneL (hh prev n) prev n) (oneL_length _ _ _ (hh_length _ _) HPL.out) (fun j u hu => by rw [add_row, cell_of_row _ _ _ _ _ _ HG.out, List.getElem?_toArray]; exact hu) (one_one _ _ _)
      refine step_val rfl v' (append_run (x := .tmp 27) (y := .tmp 32) rfl rfl rfl hrun) ?_
      obtain ⟨va, vc, rfl⟩ := own_slice hown9
      have hvp := HP.out.offp
      have hvc := HP.out.offc
      have hvq := own_off HOW.out hS.1 (fun _ _ h => by cases h)
      have hvB := own_off HOW.out hS.2 (fun _ _ h => by cases h)
      have hk9 : ∀ k o, W8.heap[k]? = some o → v.ownBlock ≠ some k → W9.heap[k]? = some o := fun k o h h2 => (hgr9.block k (Array.getElem?_eq_some_iff.1 h).1 (Ne.symm h2)).trans h
      have HRow := Lib.hid (hk9 _ _ HRow.out hvp)
      have HCH := Lib.hid (hk9 _ _ HCH.out hvc)
      have HM9 : Hid (Moved p c v w (.slice va (l.length + 1) vc) W9) := Lib.hid (HM6.out.trans ⟨hgr9.size, fun i h1 _ _ h4 => hgr9.block i h1 (Ne.symm h4), hrow9, hgr9.os, hgr9.output⟩)
      have hSn := And.intro (hk9 _ _ hS.1 hvq) (hk9 _ _ hS.2 hvB)
      have HOW9 := Lib.hid hown9
      clear hk9 hvp hvc hvq hvB hown9 hgr9 hrow9 hrun
      refine hK.out _ _ hSn (fun hS => ?_); clear hK K
      try (conv => lhs; change (Act.mk #[_,_,_,_,_,_,_,_,_,_,_,_,_,_,_,_,_,_,_,_,_,_,_,_,_,_,_,_,_,_,_,_,_,_,_,_] _))
      clear hSn
      refine wpAnyH_take (i := 11) (v := ?_) rfl (by kernel_rfl) (by kernel_rfl) (by kernel_rfl) (fun _ _ _ h => h) (held_pure rfl ?_) hS ?_
      rotate_left
      · intro w; go_simp; all_goals rfl
      rotate_left
      refine wpAnyH_take (i := 12) (v := ?_) rfl (by kernel_rfl) (by kernel_rfl) (by kernel_rfl) (fun _ _ _ h => h) (held_pure rfl ?_) hS ?_
      rotate_left
      · intro w; go_simp; all_goals rfl
      rotate_left
      refine wpAnyH_ready (rs := [13]) (by kernel_rfl) (by simp) ?_
      refine AllReadyH.cons rfl (fun K hK => ?_) AllReadyH.nil
      have hcp := cell_of_row W9 p 1 _ _ _ HRow.out
      have hfp := frozen_of_row W9 p 1 _ _ HRow.out
      refine step_store rfl 89 (.tmp 35) (.tmp 33) rfl (A := ⟨p, 1, none⟩) (v := .slice va (l.length + 1) vc) rfl rfl (store89 hcp hfp) ?_
      clear hcp hfp
      obtain ⟨W10, hW10⟩ : ∃ W', W' = W9.setCell ⟨p, 1, none⟩ (.slice va (l.length + 1) vc) := ⟨_, rfl⟩
      rw [← hW10]
      have hk10 : ∀ k, k ≠ p → W10.heap[k]? = W9.heap[k]? := fun k hk => hW10 ▸ heap_setCell_other _ _ _ _ hk
      have hr10 : W10.heap[p]? = some (.cells #[.chan (some c), .slice va (l.length + 1) vc] 91 (0, 0)) := hW10 ▸ (heap_setCell_same _ _ _ _ _ _ HRow.out).trans rfl
      have hz10 : W10.heap.size = W9.heap.size := by rw [hW10]; simp
      have hqp : q ≠ p := by rintro rfl; have h := HRow.out; rw [hS.1] at h; simp at h
      have hBp : B ≠ p := by rintro rfl; have h := HRow.out; rw [hS.2] at h; simp at h
      have hSn := And.intro ((hk10 q hqp).trans hS.1) ((hk10 B hBp).trans hS.2)
      have HK10 := Lib.hid hk10
      have HR10 := Lib.hid hr10
      have HZ10 := Lib.hid hz10
      have HOS10 : Hid (W10.os = W9.os ∧ W10.output = W9.output) := Lib.hid (by rw [hW10]; exact ⟨rfl, rfl⟩)
      have HCP : Hid (c ≠ p) := Lib.hid (pool_cp HP.out)
      clear hk10 hr10 hz10 hqp hBp hW10
      refine hK.out _ _ hSn (fun hS => ?_); clear hK K
      try (conv => lhs; change (Act.mk #[_,_,_,_,_,_,_,_,_,_,_,_,_,_,_,_,_,_,_,_,_,_,_,_,_,_,_,_,_,_,_,_,_,_,_,_] _))
      clear hSn
      refine wpAnyH_done (by kernel_rfl) ?_ _
      go_wp2_with fail
      go_ret
      have hop := own_off HOW9.out HRow.out (fun _ _ h => by cases h)
      have hoc := own_off HOW9.out HCH.out (fun _ _ h => by cases h)
      refine ⟨rfl, .slice va (l.length + 1) vc, ⟨HR10.out, ⟨s + 1, r, by rw [List.length_append]; exact (HK10.out c HCP.out).trans HCH.out⟩, ?_, hop, hoc, ?_, by rw [List.length_append]; exact hroom, HP.out.most⟩, HM9.out.trans ⟨Nat.le_of_eq HZ10.out.symm, fun i _ h2 _ _ => HK10.out i h2, .inl rfl, HOS10.out⟩⟩
      · rw [items_snoc, List.length_append]
        exact own_of_block HOW9.out (fun k hk => HK10.out k (fun e => hop (by rw [← e]; exact hk))) (Nat.le_refl _)
      · intro b hb
        rcases List.mem_append.1 hb with hb | hb
        · exact HP.out.lens b hb
        · have : b = (prev, n) := by simpa using hb
          subst this
          exact ⟨HPL.out, HN.out⟩
end Go.Proofs.Ytdecbimklomdjaa
