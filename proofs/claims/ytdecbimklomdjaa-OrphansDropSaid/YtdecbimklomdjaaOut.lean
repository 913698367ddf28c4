/- purser/block: Copy, of a block without transactions; slices.Clone, slices.Delete of a pool's rows; slices.Delete of one of a pool's rows; A pool's out: one of its blocks, and the place in the channel. -/
import Derived.Test.YtdecbimklomdjaaPool
import Derived.Test.YtdecbimklomdjaaRange
namespace Go.Proofs.Ytdecbimklomdjaa
open Go Go.RowKit Go.Shelf
theorem blk_load60 {w : World} {g : Nat} {prev : List UInt8} {n : Nat} (h : w.heap[g]? = some (.cells (blkL prev n).toArray 60 (0, 0))) (hp : prev.length = 32) : (loadVar 60 ⟨g, 0, none⟩).run Try.prog w = .ok (.agg (blkL prev n).toArray) w :=
  blk_row w g (blkL prev n) 60 _ (0, 0) 60 h Try.underlying60 rfl ((size60 prev n hp).trans (by rw [List.size_toArray]))
theorem blk_load57 {w : World} {g : Nat} {prev : List UInt8} {n : Nat} (h : w.heap[g]? = some (.cells (blkL prev n).toArray 60 (0, 0))) (hp : prev.length = 32) : (loadVar 57 ⟨g, 0, none⟩).run Try.prog w = .ok (.agg (hdrL prev n).toArray) w :=
  blk_part w g 0 (blkL prev n) (hdrL prev n) 57 _ (0, 0) 60 h (part_head _ _) Try.underlying57 rfl ((size57 prev n hp).trans (by rw [List.size_toArray]))
theorem blk_txs {w : World} {g : Nat} {prev : List UInt8} {n : Nat} (h : w.heap[g]? = some (.cells (blkL prev n).toArray 60 (0, 0))) (hp : prev.length = 32) : w.cell? ⟨g, 68, none⟩ = some (.slice none 0 0) := by
  rw [cell_of_row _ _ _ _ _ _ h, List.getElem?_toArray, blkL, List.getElem?_append_right (by rw [hdrL_length _ _ hp]; omega), hdrL_length _ _ hp]
  rfl
theorem blk_store60 {w : World} {g : Nat} {old : Array Value} {t : TypeId} {prev : List UInt8} {n : Nat} (h : w.heap[g]? = some (.cells old t (0, 0))) (ho : old.size = 69) (hp : prev.length = 32) : (storeVar 60 ⟨g, 0, none⟩ (.agg (blkL prev n).toArray)).run Try.prog w = .ok () (w.setRow g (blkL prev n).toArray) :=
  run_storeVar_row w g t 60 old (blkL prev n).toArray h (size60 prev n hp) (by rw [ho, List.size_toArray, blkL_length _ _ hp]) (all_cells (one_blk prev n))
theorem store_run {P : Program} {o : Oper} {ρ : Operand → Value} {w w' : World} {ty : TypeId} {x y : Operand} {A : Addr} {v : Value} (ho : o.op = .store ty x y) (hx : ρ x = .pointer (some A)) (hy : ρ y = v) (hl : (storeVar ty A v).run P w = .ok () w') :
    (execOp ρ o).run P w = .ok .skip w' := by
  unfold execOp
  simp only [ho, hx, hy, Instr.storeAt, Instr.sureAddr, Sem.run_bind, Sem.run_pure, Result.andThen_ok, hl]
/-- A store of a plain region, out of its run. -/
theorem wpList_put {P : Program} {ops : Array Oper} {rest : List Oper} {o : Oper} {a : Act} {w w' : World} {Q : Exit → Act → World → Prop} (hgd : o.guard = none) (ty : TypeId) (x y : Operand) (ho : o.op = .store ty x y) {A : Addr} {v : Value}
    (hx : a.eval x = .pointer (some A)) (hy : a.eval y = v) (hl : (storeVar ty A v).run P w = .ok () w') (hK : wpList P ops Q rest (a.put o.dst undef) w') : wpList P ops Q (o :: rest) a w :=
  wpList_plain hgd fun K hK' => by
    unfold Oper.wp
    rw [store_run ho hx hy hl]
    exact hK' _ _ hK
theorem wpList_get {P : Program} {ops : Array Oper} {rest : List Oper} {o : Oper} {a : Act} {w : World} {Q : Exit → Act → World → Prop} (hgd : o.guard = none) (ty : TypeId) (x : Operand) (ho : o.op = .load ty x) {A : Addr} {v : Value}
    (hx : a.eval x = .pointer (some A)) (hl : (loadVar ty A).run P w = .ok v w) (hK : wpList P ops Q rest (a.put o.dst v) w) : wpList P ops Q (o :: rest) a w :=
  wpList_one hgd (load_run ho hx hl) hK
set_option maxRecDepth 100000 in
set_option maxHeartbeats 1000000 in
theorem bcopy_any (prev : List UInt8) (n : Nat) (hp : prev.length = 32) (w : World) :
    Calls Try.prog 95 #[.agg (blkL prev n).toArray] w fun e w' => e = .returned (.agg (blkL prev n).toArray) ∧ Below w.heap.size w w' := by
  obtain ⟨W1, hW1, hb1, hn1, hn2, hsz⟩ := two_new w (.cells (blkL prev n).toArray 60) (.cells (blkL (Sha.zeros 32) 0).toArray 60)
  obtain ⟨B, hB⟩ : ∃ B, B = w.heap.size := ⟨_, rfl⟩
  rw [← hB] at hn1 hn2
  have HB1 := Lib.hid hb1
  have HN1 := Lib.hid hn1
  have HN2 := Lib.hid hn2
  have HP := Lib.hid hp
  have HS := Lib.hid hsz
  have HW1 := Lib.hid hW1
  have HBE := Lib.hid hB
  clear hb1 hn1 hn2 hsz hp hW1 hB
  go_enter Try.func95, Try.ntmps95
  go_upto_region 1 with (fail)
  change Code.wp Try.prog _ _ _ ((w.alloc (.cells (blkL prev n).toArray 60)).alloc (.cells (blkL (Sha.zeros 32) 0).toArray 60))
  rw [HW1.out, ← HBE.out]
  refine wp_region_lit ?_
  refine wpList_one (v := .pointer (some ⟨B, 0, none⟩)) (w' := W1) rfl (by kernel_rfl) ?_
  refine wpList_get rfl 57 (.tmp 6) rfl (A := ⟨B, 0, none⟩) rfl (blk_load57 HN1.out HP.out) ?_
  refine wpList_build_to rfl 60 #[(0, .tmp 7)] rfl (blkL prev n).toArray (by simp only [List.map_toArray, List.map_cons, List.map_nil]; exact built60 prev n HP.out) ?_
  refine wpList_one (v := .pointer (some ⟨W1.heap.size, 0, none⟩)) (w' := W1.alloc (.cells Try.zeroCells60 60)) rfl (by kernel_rfl) ?_
  refine wpList_put rfl 60 (.tmp 3) (.tmp 8) rfl (A := ⟨W1.heap.size, 0, none⟩) rfl rfl (blk_store60 (heap_alloc_new W1 _) (by kernel_rfl) HP.out) ?_
  rw [World.setRow_alloc_new]
  obtain ⟨W2, hW2⟩ : ∃ W2, W2 = W1.alloc (.cells (blkL prev n).toArray 60) := ⟨_, rfl⟩
  obtain ⟨p0, hp0⟩ : ∃ p0, p0 = W1.heap.size := ⟨_, rfl⟩
  have hb12 : Below W1.heap.size W1 W2 := hW2 ▸ (Below.refl _ _).alloc (Nat.le_refl _) _
  have HK : Hid (W2.heap[p0]? = some (.cells (blkL prev n).toArray 60 (0, 0))) := Lib.hid (by rw [hW2, hp0]; exact heap_alloc_new _ _)
  replace HN1 := Lib.hid (block_below' hb12 HN1.out)
  replace HN2 := Lib.hid (block_below' hb12 HN2.out)
  have HB2 := Lib.hid (HB1.out.trans (hb12.mono HB1.out.size))
  have htx := blk_txs HN1.out HP.out
  rw [← hW2, ← hp0]
  clear hb12 hW2 hp0 HW1 HB1 HS
  go_wp2_with fail
  refine wp_loop_once ?_
  go_upto_region 7 with (fail)
  refine wp_region_lit ?_
  refine wpList_get rfl 60 (.tmp 3) rfl (A := ⟨p0, 0, none⟩) rfl (blk_load60 HK.out HP.out) ?_
  refine wpList_put rfl 60 (.tmp 2) (.tmp 24) rfl (A := ⟨B + 1, 0, none⟩) rfl rfl (blk_store60 HN2.out (by rw [List.size_toArray, blkL_length _ _ (by rfl)]) HP.out) ?_
  have HN4 := Lib.hid (setRow_heap W2 (B + 1) _ (blkL prev n).toArray _ _ HN2.out)
  have HB4 := Lib.hid (below_setRow HB2.out (show w.heap.size ≤ B + 1 by have := HBE.out; omega) (blkL prev n).toArray)
  go_wp2_with fail
  exact bodyPost_ret (results_cell_row rfl _ _ (B + 1) 60 _ (0, 0) _ rfl HN4.out Try.underlying60 rfl (size60 prev n HP.out)) rfl ⟨rfl, HB4.out⟩
end Go.Proofs.Ytdecbimklomdjaa
namespace Go.Proofs.Ytdecbimklomdjaa
open Go Go.RowKit Go.Shelf
theorem info139 : (Try.prog.info? 139).map (fun i => (i.zero.map (fun z => (z.cells.size, z.cells.all (·.oneCell'))), i.size, i.bytes)) = some (some (101, true), 101, 136) := by kernel_rfl
theorem info139_parts : ∃ i z, Try.prog.info? 139 = some i ∧ i.zero = some z ∧ i.size = 101 ∧ i.bytes = 136 ∧ z.cells.size = 101 ∧ z.cells.all (·.oneCell') = true := by
  have h := info139
  cases hi : Try.prog.info? 139 with
  | none => rw [hi] at h; cases h
  | some i =>
    rw [hi] at h
    cases hz : i.zero with
    | none => rw [Option.map_some, hz] at h; cases h
    | some z =>
      rw [Option.map_some, hz] at h
      simp only [Option.map_some, Option.some.injEq, Prod.mk.injEq] at h
      exact ⟨i, z, rfl, hz, h.2.1, h.2.2, h.1.1, h.1.2⟩
theorem eql89 (w : World) (a : Option Addr) (n c : Nat) : (binOp BinOp.eql 89 (.slice a n c) (.slice none 0 0)).run Try.prog w = .ok (.bool a.isNone) w := by
  have := Lib.run_eql_slice_nil (P := Try.prog) w 89 139 a n c 0 0 Try.underlying89
  cases a <;> exact this
set_option maxRecDepth 100000 in
theorem clone1_nil (w : World) : Calls Try.prog 99 #[.slice none 0 0] w fun e w' => e = .returned (.slice none 0 0) ∧ w = w' := by
  have hn := fun w => eql89 w none 0 0
  go_enter Try.func99, Try.ntmps99
  go_wp2
  go_ret
  exact ⟨rfl, rfl⟩
set_option maxRecDepth 100000 in
theorem clone1_some (g n c : Nat) (xs : List Value) (w : World) (hx : xs.length = n * 101) (hn : n ≤ 50) (h : ∀ j u, xs[j]? = some u → w.cell? ((⟨g, 0, none⟩ : Addr).add j) = some u) (hlt : g < w.heap.size) (h1 : ∀ u ∈ xs, u.oneCell' = true) :
    Calls Try.prog 99 #[.slice (some ⟨g, 0, none⟩) n c] w fun e w' => ∃ v, e = .returned v ∧ w'.ownsRow w.heap.size 139 101 v n xs ∧ Below w.heap.size w w' := by
  have he := fun w => eql89 w (some ⟨g, 0, none⟩) n c
  obtain ⟨i0, z0, hi, hz0, hz1, hz2, hz3, _⟩ := info139_parts
  have HX := Lib.hid hx
  have HN := Lib.hid hn
  have H := Lib.hid h
  have HO := Lib.hid h1
  have HI := Lib.hid hi
  have H0 := Lib.hid hz0
  have H1 := Lib.hid hz1
  have H2 := Lib.hid hz2
  have H3 := Lib.hid hz3
  have HLT := Lib.hid hlt
  clear hx hn h h1 hi hz0 hz1 hz2 hz3 hlt
  go_enter Try.func99, Try.ntmps99
  go_wp2_with (at_builtin; refine wpList_append_own _ rfl _ _ 89 rfl w.heap.size 139 i0 z0 101 136 Try.underlying89 HI.out H0.out H1.out H2.out H3.out (by decide) _ 0 [] rfl (World.ownsRow_made w #[] 0 (Nat.le_refl _) (Nat.zero_le _) rfl) ⟨g, 0, none⟩ n c xs rfl ?c1 ?c2 ?c3 ?c4 ?c5 ?c6 ?_)
  case c1 => exact HX.out
  case c2 => 
    intro j u hu
    rw [World.cell?_alloc_lt _ _ _ (by have : ((⟨g, 0, none⟩ : Addr).add j).block = g := by { unfold Addr.add; split <;> rfl }
                                       rw [this]; exact HLT.out)]
    exact H.out j u hu
  case c3 => exact HO.out
  case c4 => have := HN.out; unfold maxLen; omega
  case c5 => have := HN.out; omega
  case c6 => simp
  intro v' w1 hown hgr _
  have HO : Hid (w1.ownsRow w.heap.size 139 101 v' n xs) := by simpa [Hid] using hown
  have HG := Lib.hid hgr
  clear hown hgr
  go_wp2
  go_ret
  exact ⟨_, rfl, HO.out, ((Below.refl _ w).alloc (Nat.le_refl _) _).grown HG.out (by simp) (by intro k hk; simp [Value.ownBlock] at hk; omega)⟩
theorem one_items (l : List (List UInt8 × Nat)) : ∀ u ∈ items l, u.oneCell' = true := fun u hu => by
  obtain ⟨b, _, hb⟩ := List.mem_flatMap.1 hu
  exact one_one _ _ _ u hb
theorem items_length : ∀ (l : List (List UInt8 × Nat)), (∀ b ∈ l, b.1.length = 32 ∧ b.2 < 4294967296) → (items l).length = l.length * 101
  | [], _ => rfl
  | b :: l, h => by
    rw [items, List.flatMap_cons, List.length_append, oneL_length _ _ _ (hh_length _ _) (h b (by simp)).1, List.length_cons]
    have := items_length l (fun b hb => h b (by simp [hb]))
    rw [items] at this
    omega
theorem clone1_any (v : Value) (n : Nat) (xs : List Value) (base : Nat) (w : World) (h : w.ownsRow base 139 101 v n xs) (hn : n ≤ 50) (h1 : ∀ u ∈ xs, u.oneCell' = true) :
    Calls Try.prog 99 #[v] w fun e w' => ∃ v', e = .returned v' ∧ w'.ownsRow w.heap.size 139 101 v' n xs ∧ Below w.heap.size w w' := by
  rcases h.2 with ⟨rfl, rfl⟩ | ⟨g, cap, cur, rfl, _, hg, _⟩
  · refine (clone1_nil w).mono ?_
    rintro e w' ⟨rfl, rfl⟩
    have hx : xs = [] := List.eq_nil_of_length_eq_zero (by simpa using h.1)
    subst hx
    exact ⟨_, rfl, World.ownsRow_nil _ _ _ _, Below.refl _ _⟩
  · exact clone1_some g n cap xs w h.1 hn (h.cells rfl) (Array.getElem?_eq_some_iff.1 hg).1 h1
end Go.Proofs.Ytdecbimklomdjaa
namespace Go.Proofs.Ytdecbimklomdjaa
open Go Go.RowKit Go.Shelf
theorem elem89 : Try.prog.underlying 89 = some (.slice (Try.prog.elem 89)) := by kernel_rfl
theorem sizeOf139 (w : World) : (sizeOf 139).run Try.prog w = .ok 101 w := by
  obtain ⟨i0, z0, hi, _, hz1, _⟩ := info139_parts
  simp [sizeOf, typeInfo, hi, hz1]
theorem zero139 : ∃ z, (∀ w, (zeroValue 139).run Try.prog w = .ok z w) ∧ z.cells.size = 101 ∧ z.cells.all (·.oneCell') = true := by
  obtain ⟨i0, z0, hi, hz0, _, _, h3, h4⟩ := info139_parts
  exact ⟨z0, fun w => by simp [zeroValue, typeInfo, hi, hz0], h3, h4⟩
/-- Where a row's part begins. -/
def partAt (g i cap : Nat) : Addr := if cap = i then ⟨g, 0, none⟩ else ⟨g, i * 101, none⟩
theorem add_row (g k : Nat) : (⟨g, 0, none⟩ : Addr).add k = ⟨g, k, none⟩ := by unfold Addr.add; split <;> simp_all
theorem slice89_h (w : World) (g n cap i : Nat) (hi : i ≤ cap) : (Instr.slice 89 (.slice (some ⟨g, 0, none⟩) n cap) none (some (.int .i64 (i : Int))) none).run Try.prog w = .ok (.slice (some ⟨g, 0, none⟩) i cap) w := by
  rw [run_slice_h w 89 _ _ _ (by kernel_rfl) _ _ (by omega) (by omega)]
  have he : Try.prog.elem 89 = 139 := by kernel_rfl
  rw [he, sizeOf139]
  simp [sliced, add_row]
theorem slice89_l (w : World) (g n cap i : Nat) (hi : i ≤ n) : (Instr.slice 89 (.slice (some ⟨g, 0, none⟩) n cap) (some (.int .i64 (i : Int))) none none).run Try.prog w = .ok (.slice (some (partAt g i cap)) (n - i) (cap - i)) w := by
  rw [run_slice_l w 89 _ _ _ (by kernel_rfl) _ _ (by omega) (by omega)]
  have he : Try.prog.elem 89 = 139 := by kernel_rfl
  rw [he, sizeOf139]
  unfold partAt
  by_cases h : cap = i <;> simp [sliced, add_row, h]
theorem slice89_lh (w : World) (g n cap i j : Nat) (hi : i ≤ j) (hj : j ≤ cap) : (Instr.slice 89 (.slice (some ⟨g, 0, none⟩) n cap) (some (.int .i64 (i : Int))) (some (.int .i64 (j : Int))) none).run Try.prog w = .ok (.slice (some (partAt g i cap)) (j - i) (cap - i)) w := by
  rw [run_slice_lh w 89 _ _ _ (by kernel_rfl) _ _ _ _ (by omega) (by omega) (by omega)]
  have he : Try.prog.elem 89 = 139 := by kernel_rfl
  rw [he, sizeOf139]
  unfold partAt
  by_cases h : cap = i <;> simp [sliced, add_row, h]
theorem slice89_lhm (w : World) (g n cap i j m : Nat) (hi : i ≤ j) (hj : j ≤ m) (hm : m ≤ cap) : ∃ v, (Instr.slice 89 (.slice (some ⟨g, 0, none⟩) n cap) (some (.int .i64 (i : Int))) (some (.int .i64 (j : Int))) (some (.int .i64 (m : Int)))).run Try.prog w = .ok v w := by
  rw [run_slice_lhm w 89 _ _ _ (by kernel_rfl) _ _ _ _ _ _ (by omega) (by omega) (by omega) (by omega)]
  have he : Try.prog.elem 89 = 139 := by kernel_rfl
  rw [he, sizeOf139]
  exact ⟨_, rfl⟩
theorem cut_law {α : Type} (cur news z : List α) (i j n : Nat) (hj : j = i + 1) (hi : i < n) (hc : n * 101 ≤ cur.length) (hnews : news = (cur.drop (j * 101)).take ((n - j) * 101)) :
    ((cur.take (i * 101) ++ news ++ cur.drop (i * 101 + news.length)).take ((n - 1) * 101) ++ z ++ (cur.take (i * 101) ++ news ++ cur.drop (i * 101 + news.length)).drop ((n - 1) * 101 + 101)).take ((n - 1) * 101) = (cur.take (n * 101)).take (i * 101) ++ (cur.take (n * 101)).drop (j * 101) := by
  have hnl : news.length = (n - j) * 101 := by rw [hnews, List.length_take, List.length_drop]; omega
  generalize hD : cur.drop (i * 101 + news.length) = D
  have hl : (cur.take (i * 101) ++ news).length = (n - 1) * 101 := by rw [List.length_append, List.length_take, hnl]; omega
  have h1 : (cur.take (i * 101) ++ news ++ D).take ((n - 1) * 101) = cur.take (i * 101) ++ news := by rw [← hl, List.take_left]
  have h2 : ∀ E : List α, (cur.take (i * 101) ++ news ++ z ++ E).take ((n - 1) * 101) = cur.take (i * 101) ++ news := fun E => by rw [List.append_assoc _ z E, ← hl, List.take_left]
  rw [h1, h2, List.take_take, Nat.min_eq_left (by omega), List.drop_take, hnews]
  congr 2
  omega
theorem run_clear1 (w : World) (g n cap : Nat) (cur : Array Value) (hg : w.heap[g]? = some (.cells cur 139 (0, 0))) (hn : 0 < n) (hc : n ≤ cap) (hs : cur.size = cap * 101) (t : TypeId) :
    ∃ z : Array Value, z.size = 101 ∧ (Builtin.clear_ #[89] t #[.slice (some (partAt g (n - 1) cap)) (n - (n - 1)) (cap - (n - 1))]).run Try.prog w = .ok (.tuple #[]) (w.setRow g (cur.toList.take ((n - 1) * 101) ++ z.toList ++ cur.toList.drop ((n - 1) * 101 + 101)).toArray) := by
  obtain ⟨z, hz, hzs, hz1⟩ := zero139
  refine ⟨z.cells, hzs, ?_⟩
  have e1 : n - (n - 1) = 1 := by omega
  have e2 : partAt g (n - 1) cap = ⟨g, (n - 1) * 101, none⟩ := by unfold partAt; rw [if_neg (by omega)]
  have hzc : (Builtin.zeroCells z.cells 1).toList = z.cells.toList := by
    simp [Builtin.zeroCells]
    apply List.ext_getElem
    · simp
    · intro i h1 h2
      have hi : i < z.cells.size := by simpa using h2
      simp [Nat.mod_eq_of_lt hi, hi]
  have hst := run_storeCells_at Try.prog g ((n - 1) * 101) 139 z.cells.toList 0 cur w hg (by simp [hzs, hs]; omega) (fun v hv => Array.all_eq_true_iff_forall_mem.1 hz1 v (by simpa using hv))
  simp only [Nat.add_zero, Array.length_toList, hzs] at hst
  rw [e1, e2]
  simp [Builtin.clear_, run_underlying Try.underlying89, hz, hzc, hst]
theorem slice_run {P : Program} {o : Oper} {ρ : Operand → Value} {w : World} {ty : TypeId} {x : Operand} {lo hi mx : Option Operand} {v : Value} (ho : o.op = .slice ty x lo hi mx) (hu : P.underlying ty = some (.slice (P.elem ty))) (h : (Instr.slice ty (ρ x) (lo.map ρ) (hi.map ρ) (mx.map ρ)).run P w = .ok v w) :
    (execOp ρ o).run P w = .ok (.value v) w := by
  unfold execOp
  simp only [ho, Sem.run_bind, run_sliceAt_slice w ty _ _ _ _ hu, h, Sem.run_pure, Result.andThen_ok]
theorem clear_run {P : Program} {o : Oper} {ρ : Operand → Value} {w w' : World} {ty : TypeId} {x : Operand} {v u : Value} (ho : o.op = .call { callee := .builtin .clear, args := #[x], argTypes := #[ty] }) (hx : ρ x = v) (h : (Builtin.clear_ #[ty] o.type #[v]).run P w = .ok u w') :
    (execOp ρ o).run P w = .ok (.value u) w' := by
  simp only [execOp, ho, resolve, invoke, builtin, List.map_toArray, List.map_cons, List.map_nil, hx, Sem.run_bind, Sem.run_pure, Result.andThen_ok, h]
theorem len_run {P : Program} {o : Oper} {ρ : Operand → Value} {w w' : World} {ty : TypeId} {x : Operand} {v u : Value} (ho : o.op = .call { callee := .builtin .len, args := #[x], argTypes := #[ty] }) (hx : ρ x = v) (h : (Builtin.len_ #[ty] o.type #[v]).run P w = .ok u w') :
    (execOp ρ o).run P w = .ok (.value u) w' := by
  simp only [execOp, ho, resolve, invoke, builtin, List.map_toArray, List.map_cons, List.map_nil, hx, Sem.run_bind, Sem.run_pure, Result.andThen_ok, h]
theorem len89 (w : World) (a : Option Addr) (n c : Nat) (t : TypeId) : (Builtin.len_ #[89] t #[.slice a n c]).run Try.prog w = .ok (.int .i64 (n : Int)) w := by
  simp [Builtin.len_, run_underlying Try.underlying89, goInt]
set_option maxRecDepth 100000 in
set_option maxHeartbeats 1000000 in
theorem delete_any (g n cap i base : Nat) (xs : List Value) (w : World) (hown : w.ownsRow base 139 101 (.slice (some ⟨g, 0, none⟩) n cap) n xs) (hn : n ≤ 50) (hi : i < n) (h1 : ∀ u ∈ xs, u.oneCell' = true) :
    Calls Try.prog 126 #[.slice (some ⟨g, 0, none⟩) n cap, .int .i64 (i : Int), .int .i64 ((i + 1 : Nat) : Int)] w fun e w' => e = .returned (.slice (some ⟨g, 0, none⟩) ((n - 1 : Nat) : Nat) cap) ∧
      w'.ownsRow base 139 101 (.slice (some ⟨g, 0, none⟩) (n - 1) cap) (n - 1) (xs.take (i * 101) ++ xs.drop ((i + 1) * 101)) ∧ w'.heap.size = w.heap.size ∧ (∀ k, k ≠ g → w'.heap[k]? = w.heap[k]?) ∧ w'.os = w.os ∧ w'.output = w.output := by
  rcases hown with ⟨hxl, ⟨h, _⟩ | ⟨g', cap', cur, h, hbg, hg, hnc, hcm, hcs, htk⟩⟩
  · cases h
  cases h
  obtain ⟨j, hj⟩ : ∃ j, j = i + 1 := ⟨_, rfl⟩
  rw [← hj]
  have b1 : (0 : Int) ≤ (i : Int) := by omega
  have b2 : (i : Int) ≤ (j : Int) := by omega
  have b3 : (j : Int) ≤ (n : Int) := by omega
  have b4 : (n : Int) ≤ (cap : Int) := by omega
  have b5 : ¬ (i : Int) = (j : Int) := by omega
  have HJ := Lib.hid hj
  have HG := Lib.hid hg
  have HNC := Lib.hid hnc
  have HCM := Lib.hid hcm
  have HCS := Lib.hid hcs
  have HTK := Lib.hid htk
  have HXL := Lib.hid hxl
  have HN := Lib.hid hn
  have HI := Lib.hid hi
  have H1 := Lib.hid h1
  have HBG := Lib.hid hbg
  clear hj hg hnc hcm hcs htk hxl hn hi h1 hbg
  have s1 := fun w => slice89_h w g n cap i (by have := HNC.out; have := HI.out; omega)
  have s2 := fun w => slice89_l w g n cap j (by have := HI.out; have := HJ.out; omega)
  go_enter Try.func126, Try.ntmps126
  go_wp2_with fail
  obtain ⟨i0, z0, hinf, _, hz1, _⟩ := info139_parts
  obtain ⟨m, hm⟩ : ∃ m, m = i + (n - j) := ⟨_, rfl⟩
  have hmn : m = n - 1 := by have := HI.out; have := HJ.out; omega
  obtain ⟨news, hnews⟩ : ∃ news, news = (cur.toList.drop (j * 101)).take ((n - j) * 101) := ⟨_, rfl⟩
  have hcl : cur.toList.length = cap * 101 := by rw [Array.length_toList]; exact HCS.out
  have hnl : news.length = (n - j) * i0.size := by
    rw [hnews, hz1, List.length_take, List.length_drop, hcl]; have := HNC.out; have := HI.out; have := HJ.out; omega
  have hnc : ∀ k u, news[k]? = some u → w.drew.cell? ((partAt g j cap).add k) = some u := by
    intro k u hu
    have hk := (List.getElem?_eq_some_iff.1 hu).1
    have hne : ¬ cap = j := by intro h; rw [hnl] at hk; have := HNC.out; have : n - j = 0 := by omega
                               rw [this] at hk; omega
    have : (⟨g, j * 101, none⟩ : Addr).add k = ⟨g, j * 101 + k, none⟩ := by unfold Addr.add; split <;> simp_all
    unfold partAt
    rw [if_neg hne, this, cell_of_row _ _ _ _ _ _ (show w.drew.heap[g]? = _ from HG.out)]
    rw [hnews, List.getElem?_take, List.getElem?_drop] at hu
    split at hu
    · simpa using hu
    · cases hu
  have hn1 : ∀ u ∈ news, u.oneCell' = true := by
    intro u hu
    refine H1.out u ?_
    rw [← HTK.out]
    rw [hnews] at hu
    have : (cur.toList.drop (j * 101)).take ((n - j) * 101) = (cur.toList.take (n * 101)).drop (j * 101) := by
      rw [List.drop_take]; congr 1; have := HI.out; have := HJ.out; omega
    rw [this] at hu
    exact List.mem_of_mem_drop hu
  have hrun := fun ty => run_append_room (P := Try.prog) w.drew 89 ty 139 i0 Try.underlying89 hinf g i cap cur HG.out (partAt g j cap) (n - j) (cap - j) news hnl hnc hn1 (by have := HNC.out; have := HI.out; have := HJ.out; omega) (by rw [hz1, hnl, hz1, HCS.out]; have := HNC.out; have := HI.out; have := HJ.out; rw [← Nat.add_mul]; exact Nat.mul_le_mul_right _ (by omega))
  rw [hz1] at hrun
  rw [hz1] at hnl
  obtain ⟨cur1, hcur1⟩ : ∃ cur1, cur1 = (cur.toList.take (i * 101) ++ news ++ cur.toList.drop (i * 101 + news.length)).toArray := ⟨_, rfl⟩
  obtain ⟨W1, hW1⟩ : ∃ W1, W1 = w.drew.setRow g cur1 := ⟨_, rfl⟩
  have hG1 : W1.heap[g]? = some (.cells cur1 139 (0, 0)) := hW1 ▸ setRow_heap _ _ _ _ _ _ (show w.drew.heap[g]? = _ from HG.out)
  have hs1 : cur1.size = cap * 101 := by rw [hcur1, List.size_toArray]; simp only [List.length_append, List.length_take, List.length_drop, hcl, hnl]; have := HNC.out; have := HI.out; have := HJ.out; omega
  have hK1 : ∀ k, k ≠ g → W1.heap[k]? = w.heap[k]? := fun k hk => hW1 ▸ setRow_other w.drew g k cur1 hk
  have hZ1 : W1.heap.size = w.heap.size := by rw [hW1, setRow_size]; rfl
  have HOS : Hid (W1.os = w.os ∧ W1.output = w.output) := Lib.hid (by rw [hW1]; exact ⟨rfl, rfl⟩)
  rw [← hcur1, ← hW1, ← hm] at hrun
  have HRUN := Lib.hid hrun
  have HG1 := Lib.hid hG1
  have HS1 := Lib.hid hs1
  have HK1 := Lib.hid hK1
  have HZ1 := Lib.hid hZ1
  have HC1 := Lib.hid hcur1
  have HNE := Lib.hid hnews
  have HNL := Lib.hid hnl
  have HMN := Lib.hid hmn
  clear hrun hG1 hs1 hK1 hZ1 hcur1 hW1 hnews hnl hnc hn1 hinf hz1 hm hmn b1 b2 b3 b4 b5 hcl
  refine wp_region_any (by kernel_rfl) ?_
  change wpAny _ _ _ _ _ _ _ (World.drew _)
  refine wpAny_take (i := 0) (v := ?_) rfl (by kernel_rfl) (by kernel_rfl) (by kernel_rfl) (fun _ _ _ h => h) (Or.inl ⟨by rfl, ?_⟩) ?_
  rotate_left
  · intro w; go_simp; all_goals rfl
  rotate_left
  try (conv => lhs; change (Act.mk #[_,_,_,_,_,_,_,_,_,_,_,_,_,_,_,_,_,_,_,_,_,_,_,_,_,_,_,_,_,_,_,_,_] _))
  refine wpAny_take (i := 1) (v := ?_) rfl (by kernel_rfl) (by kernel_rfl) (by kernel_rfl) (fun _ _ _ h => h) (Or.inl ⟨by rfl, ?_⟩) ?_
  rotate_left
  · intro w; go_simp; all_goals rfl
  rotate_left
  try (conv => lhs; change (Act.mk #[_,_,_,_,_,_,_,_,_,_,_,_,_,_,_,_,_,_,_,_,_,_,_,_,_,_,_,_,_,_,_,_,_] _))
  refine wpAny_take (i := 2) (v := .slice (some ⟨g, 0, none⟩) i cap) rfl (by kernel_rfl) (by kernel_rfl) (by kernel_rfl) (fun _ _ _ h => h) (Or.inl ⟨by rfl, fun w => slice_run rfl elem89 (s1 w)⟩) ?_
  try (conv => lhs; change (Act.mk #[_,_,_,_,_,_,_,_,_,_,_,_,_,_,_,_,_,_,_,_,_,_,_,_,_,_,_,_,_,_,_,_,_] _))
  refine wpAny_take (i := 3) (v := ?_) rfl (by kernel_rfl) (by kernel_rfl) (by kernel_rfl) (fun _ _ _ h => h) (Or.inl ⟨by rfl, ?_⟩) ?_
  rotate_left
  · intro w; go_simp; all_goals rfl
  rotate_left
  try (conv => lhs; change (Act.mk #[_,_,_,_,_,_,_,_,_,_,_,_,_,_,_,_,_,_,_,_,_,_,_,_,_,_,_,_,_,_,_,_,_] _))
  refine wpAny_take (i := 4) (v := ?_) rfl (by kernel_rfl) (by kernel_rfl) (by kernel_rfl) (fun _ _ _ h => h) (Or.inl ⟨by rfl, ?_⟩) ?_
  rotate_left
  · intro w; go_simp; all_goals rfl
  rotate_left
  try (conv => lhs; change (Act.mk #[_,_,_,_,_,_,_,_,_,_,_,_,_,_,_,_,_,_,_,_,_,_,_,_,_,_,_,_,_,_,_,_,_] _))
  refine wpAny_take (i := 5) (v := .slice (some (partAt g j cap)) (n - j) (cap - j)) rfl (by kernel_rfl) (by kernel_rfl) (by kernel_rfl) (fun _ _ _ h => h) (Or.inl ⟨by rfl, fun w => slice_run rfl elem89 (s2 w)⟩) ?_
  try (conv => lhs; change (Act.mk #[_,_,_,_,_,_,_,_,_,_,_,_,_,_,_,_,_,_,_,_,_,_,_,_,_,_,_,_,_,_,_,_,_] _))
  refine wpAny_ready (rs := [6]) (by kernel_rfl) (by simp) ?_
  refine AllReady.cons rfl (fun K hK => ?_) AllReady.nil
  refine step_append_to rfl (.tmp 22) (.tmp 25) 89 89 rfl _ _ rfl rfl (HRUN.out _) ?_
  refine hK _ _ ?_; clear hK K
  try (conv => lhs; change (Act.mk #[_,_,_,_,_,_,_,_,_,_,_,_,_,_,_,_,_,_,_,_,_,_,_,_,_,_,_,_,_,_,_,_,_] _))
  refine wpAny_take (i := 7) (v := ?_) rfl (by kernel_rfl) (by kernel_rfl) (by kernel_rfl) (fun _ _ _ h => h) (Or.inl ⟨by rfl, ?_⟩) ?_
  rotate_left
  · intro w; go_simp; all_goals rfl
  rotate_left
  try (conv => lhs; change (Act.mk #[_,_,_,_,_,_,_,_,_,_,_,_,_,_,_,_,_,_,_,_,_,_,_,_,_,_,_,_,_,_,_,_,_] _))
  refine wpAny_done (by kernel_rfl) ?_ _
  obtain ⟨z, hz, hclr⟩ := run_clear1 W1 g n cap cur1 HG1.out (by have := HI.out; omega) HNC.out HS1.out 0
  obtain ⟨C, hC⟩ : ∃ C, C = (cur1.toList.take ((n - 1) * 101) ++ z.toList ++ cur1.toList.drop ((n - 1) * 101 + 101)).toArray := ⟨_, rfl⟩
  rw [← hC] at hclr
  have HC := Lib.hid hC
  clear hC
  go_upto_region 6 with (fail)
  refine wp_region_lit ?_
  refine wpList_one (w' := W1) rfl (move_run (x := .tmp 0) rfl rfl) ?_
  refine wpList_one (w' := W1) rfl (move_run (x := .tmp 0) rfl rfl) ?_
  refine wpList_one (w' := W1) rfl (len_run rfl rfl (len89 _ _ _ _ _)) ?_
  refine wpList_one (w' := W1) rfl (move_run (x := .tmp 7) rfl rfl) ?_
  refine wpList_one (w' := W1) rfl (slice_run rfl elem89 (slice89_lh W1 g m cap m n (by have := HMN.out; omega) HNC.out)) ?_
  refine wpList_one rfl (clear_run (x := .tmp 31) rfl rfl (by rw [HMN.out]; exact hclr)) ?_
  go_wp2_with fail
  have hcl : cur.toList.length = cap * 101 := by rw [Array.length_toList]; exact HCS.out
  have hcl1 : cur1.toList.length = cap * 101 := by rw [Array.length_toList]; exact HS1.out
  have hle : n * 101 ≤ cap * 101 := Nat.mul_le_mul_right _ HNC.out
  have hij : (i + 1) * 101 = j * 101 := by rw [HJ.out]
  rw [HMN.out]
  go_ret
  refine ⟨rfl, ⟨?_, .inr ⟨g, cap, C, rfl, HBG.out, setRow_heap _ _ _ _ _ _ HG1.out, by have := HNC.out; omega, HCM.out, ?_, ?_⟩⟩, ?_, fun k hk => (setRow_other W1 g k C hk).trans (HK1.out k hk), HOS.out.1, HOS.out.2⟩
  · rw [List.length_append, List.length_take, List.length_drop, HXL.out]; have := HI.out; have := HJ.out; omega
  · rw [HC.out, List.size_toArray]; simp only [List.length_append, List.length_take, List.length_drop, hcl1, Array.length_toList, hz]; have := HI.out; omega
  · rw [HC.out, ← HTK.out, List.toList_toArray, HC1.out, List.toList_toArray]
    exact cut_law cur.toList news z.toList i j n HJ.out HI.out (by rw [hcl]; exact hle) HNE.out
  · rw [setRow_size]; exact HZ1.out
end Go.Proofs.Ytdecbimklomdjaa
namespace Go.Proofs.Ytdecbimklomdjaa
open Go Go.RowKit Go.Shelf
theorem items_append (a b : List (List UInt8 × Nat)) : items (a ++ b) = items a ++ items b := List.flatMap_append
def Good (l : List (List UInt8 × Nat)) : Prop := ∀ b ∈ l, b.1.length = 32 ∧ b.2 < 4294967296
theorem Good.sub {l m : List (List UInt8 × Nat)} (h : Good l) (hs : ∀ b ∈ m, b ∈ l) : Good m := fun b hb => h b (hs b hb)
/-- A pool's blocks, up to one, the one, and behind it. -/
theorem items_split {l : List (List UInt8 × Nat)} (h : Good l) {i : Nat} {prev : List UInt8} {n : Nat} (hi : l[i]? = some (prev, n)) :
    items l = items (l.take i) ++ (oneL (hh prev n) prev n ++ items (l.drop (i + 1))) ∧ (items (l.take i)).length = i * 101 ∧ (oneL (hh prev n) prev n).length = 101 ∧ prev.length = 32 ∧ n < 4294967296 := by
  have hlt := (List.getElem?_eq_some_iff.1 hi).1
  have he := (List.getElem?_eq_some_iff.1 hi).2
  have hb := h (prev, n) (List.mem_of_getElem? hi)
  refine ⟨?_, ?_, oneL_length _ _ _ (hh_length _ _) hb.1, hb⟩
  · conv => lhs; rw [← List.take_append_drop i l, items_append, List.drop_eq_getElem_cons hlt, he]
    rfl
  · rw [items_length _ (h.sub fun b hb => List.mem_of_mem_take hb), List.length_take, Nat.min_eq_left (by omega)]
theorem items_erase {l : List (List UInt8 × Nat)} (h : Good l) {i : Nat} {prev : List UInt8} {n : Nat} (hi : l[i]? = some (prev, n)) :
    (items l).take (i * 101) ++ (items l).drop ((i + 1) * 101) = items (l.eraseIdx i) := by
  obtain ⟨h1, h2, h3, _⟩ := items_split h hi
  rw [h1, List.eraseIdx_eq_take_drop_succ, items_append, ← h2, List.take_left, ← List.append_assoc]
  congr 1
  rw [show (i + 1) * 101 = (items (l.take i) ++ oneL (hh prev n) prev n).length by rw [List.length_append, h2, h3]; omega, List.drop_left]
theorem index89 (w : World) (g n cap i : Nat) (hi : i < n) : (Instr.indexAt 89 (.slice (some ⟨g, 0, none⟩) n cap) (.int .i64 (i : Int))).run Try.prog w = .ok (.pointer (some ⟨g, i * 101, none⟩)) w := by
  have h0 : (0 : Int) ≤ (i : Int) ∧ (i : Int) < (n : Int) := by omega
  simp [Instr.indexAt, asIntOf, run_underlying Try.underlying89, hi, add_row]
theorem index_run {P : Program} {o : Oper} {ρ : Operand → Value} {w : World} {ty : TypeId} {x y : Operand} {v : Value} (ho : o.op = .indexAddr ty x y) (h : (Instr.indexAt ty (ρ x) (ρ y)).run P w = .ok v w) : (execOp ρ o).run P w = .ok (.value v) w := by
  unfold execOp
  simp only [ho, Sem.run_bind, h, Sem.run_pure, Result.andThen_ok]
theorem setChan_ne (w : World) {c c' : Nat} (cap : Nat) (buf : Array Value) (cl : Bool) (s r : Nat) (tm : Bool) (h : c' ≠ c) : (w.setChan c cap buf cl s r tm).heap[c']? = w.heap[c']? := by
  have h' : ¬ c = c' := fun e => h e.symm
  simp [World.setChan, h']
theorem oneA_size (prev : List UInt8) (n : Nat) (h : prev.length = 32) : (oneL (hh prev n) prev n).toArray.size = 101 := by rw [List.size_toArray, oneL_length _ _ _ (hh_length _ _) h]
theorem one_load {w : World} {g o : Nat} {prev : List UInt8} {n : Nat} (h : w.rangeAt g o (oneL (hh prev n) prev n)) (hp : prev.length = 32) : (loadVar 139 ⟨g, o, none⟩).run Try.prog w = .ok (.agg (oneL (hh prev n) prev n).toArray) w :=
  run_loadVar_mid w g o 139 _ _ h Try.underlying139 rfl ((size139 _ prev n (hh_length _ _) hp).trans (by rw [List.size_toArray]))
theorem one_store {w : World} {g : Nat} {old : Array Value} {t : TypeId} {prev : List UInt8} {n : Nat} (h : w.heap[g]? = some (.cells old t (0, 0))) (ho : old.size = 101) (hp : prev.length = 32) : (storeVar 139 ⟨g, 0, none⟩ (.agg (oneL (hh prev n) prev n).toArray)).run Try.prog w = .ok () (w.setRow g (oneL (hh prev n) prev n).toArray) :=
  run_storeVar_row w g t 139 old _ h (size139 _ prev n (hh_length _ _) hp) (by rw [ho, oneA_size _ _ hp]) (all_cells (one_one _ prev n))
theorem one_row {w : World} {g : Nat} {prev : List UInt8} {n : Nat} {t : TypeId} (h : w.heap[g]? = some (.cells (oneL (hh prev n) prev n).toArray t (0, 0))) : w.rangeAt g 0 (oneL (hh prev n) prev n) := fun j v hj => by
  rw [Nat.zero_add, cell_of_row _ _ _ _ _ _ h, List.getElem?_toArray]; exact hj
/-- A pool's block, in its row. -/
theorem PoolAt.at {w : World} {p c : Nat} {v : Value} {most : Nat} {l : List (List UInt8 × Nat)} (h : PoolAt w p c v most l) {i : Nat} {prev : List UInt8} {n : Nat} (hi : l[i]? = some (prev, n)) :
    ∃ g cap, v = .slice (some ⟨g, 0, none⟩) l.length cap ∧ g < w.heap.size ∧ g ≠ p ∧ g ≠ c ∧ w.rangeAt g (i * 101) (oneL (hh prev n) prev n) := by
  obtain ⟨h1, h2, h3, _⟩ := items_split (l := l) h.lens hi
  have hlt := (List.getElem?_eq_some_iff.1 hi).1
  rcases h.own.2 with ⟨_, h0⟩ | ⟨g, cap, cur, hv, _, hg, _⟩
  · omega
  · have hcells := h.own.cells (g := g) (by rw [hv]; rfl)
    refine ⟨g, cap, hv, (Array.getElem?_eq_some_iff.1 hg).1, fun e => h.offp (by rw [hv, e]; rfl), fun e => h.offc (by rw [hv, e]; rfl), fun j u hj => ?_⟩
    have hjl := (List.getElem?_eq_some_iff.1 hj).1
    rw [← add_row]
    refine hcells _ _ ?_
    rw [h1, ← h2, List.getElem?_append_right (by omega), Nat.add_sub_cancel_left, List.getElem?_append_left hjl]
    exact hj
set_option maxRecDepth 100000 in
theorem zero140 (w : World) : (zeroValue 140).run Try.prog w = .ok (.agg #[]) w := by kernel_rfl
theorem recv_run {o : Oper} {ρ : Operand → Value} {w : World} {x : Operand} {c : Nat} (ho : o.op = .recv 88 x false) (hx : ρ x = .chan (some c)) : (execOp ρ o).run Try.prog w = .ok (.comm #[Conc.rcase c (.agg #[])] true (.recv false)) w := by
  unfold execOp
  simp only [ho, hx, Sem.run_bind, run_underlying Try.underlying88, Result.andThen_ok, zero140, Sem.run_pure]
  rfl
theorem wpList_call {P : Program} {ops : Array Oper} {rest : List Oper} {o : Oper} {a : Act} {w : World} {Q : Exit → Act → World → Prop} (hgd : o.guard = none) {f : FuncId} {args : Array Value} (h : (execOp a.eval o).run P w = .ok (.enter f args) w)
    (hc : Calls P f args w fun e w' => ∃ v, e = .returned v ∧ wpList P ops Q rest (a.put o.dst v) w') : wpList P ops Q (o :: rest) a w :=
  wpList_plain hgd fun K hK => by
    unfold Oper.wp
    rw [h]
    refine hc.mono ?_
    rintro e w' ⟨v, rfl, hv⟩
    exact hK _ _ hv
theorem own_live {w : World} {base : Nat} {e : TypeId} {s n : Nat} {v : Value} {xs : List Value} (h : w.ownsRow base e s v n xs) (hn : 0 < n) : ∃ g cap, v = .slice (some ⟨g, 0, none⟩) n cap ∧ base ≤ g ∧ g < w.heap.size := by
  rcases h.2 with ⟨_, h0⟩ | ⟨g, cap, cur, rfl, hb, hg, _⟩
  · omega
  · exact ⟨g, cap, rfl, hb, (Array.getElem?_eq_some_iff.1 hg).1⟩
theorem add1_run {o : Oper} {ρ : Operand → Value} {w : World} {x : Operand} {i : Nat} (ho : o.op = .binOp .add 3 x (.const (.int .i64 1)) 3) (hx : ρ x = .int .i64 (i : Int)) (hi : i ≤ 1000) (hc : ρ (.const (.int .i64 1)) = .int .i64 1 := by rfl) : (execOp ρ o).run Try.prog w = .ok (.value (.int .i64 ((i + 1 : Nat) : Int))) w := by
  have : IntKind.i64.wrap ((i : Int) + 1) = ((i + 1 : Nat) : Int) := by rw [IntKind.wrap_i64]; omega
  simp only [execOp, ho, hx, hc]
  rw [← this]
  rfl
theorem pool_cp {w : World} {p c : Nat} {v : Value} {most : Nat} {l : List (List UInt8 × Nat)} (h : PoolAt w p c v most l) : c ≠ p := by
  rintro rfl
  obtain ⟨s, r, hc⟩ := h.ch
  rw [h.row] at hc
  cases hc
theorem own_of_block {w w' : World} {base b : Nat} {e : TypeId} {s n : Nat} {v : Value} {xs : List Value} (h : w.ownsRow base e s v n xs) (hb : ∀ k, v.ownBlock = some k → w'.heap[k]? = w.heap[k]?) (hle : b ≤ base) : w'.ownsRow b e s v n xs := by
  rcases h with ⟨h1, h2 | ⟨g, cap, cur, rfl, h3, h4, h5⟩⟩
  · exact ⟨h1, .inl h2⟩
  · exact ⟨h1, .inr ⟨g, cap, cur, rfl, Nat.le_trans hle h3, (hb g rfl).trans h4, h5⟩⟩
theorem sizeOf89 (w : World) : (sizeOf 89).run Try.prog w = .ok 1 w := by kernel_rfl
theorem load89 {w : World} {A : Addr} {v : Value} (h : w.cell? A = some v) : (loadVar 89 A).run Try.prog w = .ok v w := by
  simp [loadVar, isAgg, run_underlying Try.underlying89, h]
theorem load88 {w : World} {A : Addr} {v : Value} (h : w.cell? A = some v) : (loadVar 88 A).run Try.prog w = .ok v w := by
  simp [loadVar, isAgg, run_underlying Try.underlying88, h]
theorem store89 {w : World} {A : Addr} {u : Value} {a : Option Addr} {n c : Nat} (h : w.cell? A = some u) (hf : w.frozen? A = false) : (storeVar 89 A (.slice a n c)).run Try.prog w = .ok () (w.setCell A (.slice a n c)) := by
  simp [storeVar, Value.cells, storeCells, Addr.add]
  rw [run_store _ _ _ _ _ (by rfl), h]
  simp [hf]
set_option maxRecDepth 100000 in
set_option maxHeartbeats 1000000 in
theorem out_any (p c : Nat) (v : Value) (most : Nat) (l : List (List UInt8 × Nat)) (i : Nat) (prev : List UInt8) (n : Nat) (hi : l[i]? = some (prev, n)) (w : World) (hp : PoolAt w p c v most l) :
    Calls Try.prog 101 #[.pointer (some ⟨p, 0, none⟩), .int .i64 (i : Int)] w fun e w' => e = .returned (.agg (oneL (hh prev n) prev n).toArray) ∧ ∃ v', PoolAt w' p c v' most (l.eraseIdx i) ∧ Moved p c v w v' w' := by
  obtain ⟨g, cap, rfl, hgw, hgp, hgc, hrange⟩ := hp.at hi
  obtain ⟨_, _, _, hpl, hnn⟩ := items_split (l := l) hp.lens hi
  have hlt := (List.getElem?_eq_some_iff.1 hi).1
  have hpw : p < w.heap.size := (Array.getElem?_eq_some_iff.1 hp.row).1
  have hcw : c < w.heap.size := by obtain ⟨s, r, hc⟩ := hp.ch; exact (Array.getElem?_eq_some_iff.1 hc).1
  obtain ⟨B, hB⟩ : ∃ B, B = w.heap.size := ⟨_, rfl⟩
  obtain ⟨W1, hW1⟩ : ∃ W1, W1 = w.alloc (.cells Try.zeroCells139 139) := ⟨_, rfl⟩
  obtain ⟨W2, hW2⟩ : ∃ W2, W2 = W1.alloc (.cells (oneL (hh prev n) prev n).toArray 139) := ⟨_, rfl⟩
  have hb1 : Below w.heap.size w W1 := hW1 ▸ (Below.refl _ _).alloc (Nat.le_refl _) _
  have hz1 : W1.heap.size = B + 1 := by rw [hW1, hB]; simp
  have hb12 : Below W1.heap.size W1 W2 := hW2 ▸ (Below.refl _ _).alloc (Nat.le_refl _) _
  have hb2 : Below w.heap.size w W2 := hb1.trans (hb12.mono hb1.size)
  have hn4 : W2.heap[B]? = some (.cells Try.zeroCells139 139 (0, 0)) := block_below' hb12 (by rw [hW1, hB]; exact heap_alloc_new _ _)
  have hn5 : W2.heap[B + 1]? = some (.cells (oneL (hh prev n) prev n).toArray 139 (0, 0)) := by rw [hW2, ← hz1]; exact heap_alloc_new _ _
  have hz2 : W2.heap.size = B + 2 := by rw [hW2]; simp [hz1]
  have hp1 := hp.below hb1
  have hp2 := hp.below hb2
  have hr1 : W1.rangeAt g (i * 101) (oneL (hh prev n) prev n) := fun j u hj => (hb1.cell (p := ⟨g, i * 101 + j, none⟩) hgw).trans (hrange j u hj)
  have HP := Lib.hid hp
  have HP1 := Lib.hid hp1
  have HP2 := Lib.hid hp2
  have HR1 := Lib.hid hr1
  have HB2 := Lib.hid hb2
  have HN4 := Lib.hid hn4
  have HN5 := Lib.hid hn5
  have HPL := Lib.hid hpl
  have HW1 := Lib.hid hW1
  have HW2 := Lib.hid hW2
  have HBE := Lib.hid hB
  have HZ1 := Lib.hid hz1
  have HZ2 := Lib.hid hz2
  have HLT := Lib.hid hlt
  have HI := Lib.hid hi
  have HPW := Lib.hid hpw
  have HCW := Lib.hid hcw
  have HGW := Lib.hid hgw
  have HGP := Lib.hid hgp
  have HGC := Lib.hid hgc
  clear hp hp1 hp2 hr1 hb1 hb12 hb2 hn4 hn5 hpl hW1 hW2 hB hz1 hz2 hlt hi hpw hcw hgw hgp hgc hrange
  go_enter Try.func101, Try.ntmps101
  go_upto_region 1 with (fail)
  change Code.wp Try.prog _ _ _ (w.alloc (.cells Try.zeroCells139 139))
  rw [← HW1.out, ← HBE.out]
  refine wp_region_lit ?_
  refine wpList_one (v := .pointer (some ⟨p, 0, none⟩)) (w' := W1) rfl (by kernel_rfl) ?_
  try (conv => lhs; change (Act.mk #[_,_,_,_,_,_,_,_,_,_,_,_,_,_,_,_,_,_,_,_,_,_,_,_,_,_,_,_,_,_,_] _))
  refine wpList_one (v := .pointer (some ⟨p, 0, none⟩)) (w' := W1) rfl (by kernel_rfl) ?_
  try (conv => lhs; change (Act.mk #[_,_,_,_,_,_,_,_,_,_,_,_,_,_,_,_,_,_,_,_,_,_,_,_,_,_,_,_,_,_,_] _))
  refine wpList_one (v := .pointer (some ⟨p, 1, none⟩)) (w' := W1) rfl (by kernel_rfl) ?_
  try (conv => lhs; change (Act.mk #[_,_,_,_,_,_,_,_,_,_,_,_,_,_,_,_,_,_,_,_,_,_,_,_,_,_,_,_,_,_,_] _))
  refine wpList_one (v := .slice (some ⟨g, 0, none⟩) l.length cap) (w' := W1) rfl (load_run (x := .tmp 8) rfl rfl (load89 HP1.out.cells.2)) ?_
  try (conv => lhs; change (Act.mk #[_,_,_,_,_,_,_,_,_,_,_,_,_,_,_,_,_,_,_,_,_,_,_,_,_,_,_,_,_,_,_] _))
  refine wpList_one (v := .int .i64 (i : Int)) (w' := W1) rfl (by kernel_rfl) ?_
  try (conv => lhs; change (Act.mk #[_,_,_,_,_,_,_,_,_,_,_,_,_,_,_,_,_,_,_,_,_,_,_,_,_,_,_,_,_,_,_] _))
  refine wpList_one (w' := W1) rfl (index_run rfl (index89 W1 g l.length cap i HLT.out)) ?_
  try (conv => lhs; change (Act.mk #[_,_,_,_,_,_,_,_,_,_,_,_,_,_,_,_,_,_,_,_,_,_,_,_,_,_,_,_,_,_,_] _))
  refine wpList_one (w' := W1) rfl (load_run (x := .tmp 11) rfl rfl (one_load HR1.out HPL.out)) ?_
  try (conv => lhs; change (Act.mk #[_,_,_,_,_,_,_,_,_,_,_,_,_,_,_,_,_,_,_,_,_,_,_,_,_,_,_,_,_,_,_] _))
  refine wpList_one (v := .pointer (some ⟨W1.heap.size, 0, none⟩)) (w' := W1.alloc (.cells Try.zeroCells139 139)) rfl (by kernel_rfl) ?_
  try (conv => lhs; change (Act.mk #[_,_,_,_,_,_,_,_,_,_,_,_,_,_,_,_,_,_,_,_,_,_,_,_,_,_,_,_,_,_,_] _))
  refine wpList_put rfl 139 (.tmp 5) (.tmp 12) rfl (A := ⟨W1.heap.size, 0, none⟩) rfl rfl (one_store (heap_alloc_new W1 _) (by kernel_rfl) HPL.out) ?_
  try (conv => lhs; change (Act.mk #[_,_,_,_,_,_,_,_,_,_,_,_,_,_,_,_,_,_,_,_,_,_,_,_,_,_,_,_,_,_,_] _))
  rw [World.setRow_alloc_new, ← HW2.out, HZ1.out]
  go_upto_region 2 with (fail)
  refine wp_region_lit ?_
  refine wpList_one (v := .pointer (some ⟨p, 0, none⟩)) (w' := W2) rfl (by kernel_rfl) ?_
  try (conv => lhs; change (Act.mk #[_,_,_,_,_,_,_,_,_,_,_,_,_,_,_,_,_,_,_,_,_,_,_,_,_,_,_,_,_,_,_] _))
  refine wpList_one (v := .pointer (some ⟨p, 0, none⟩)) (w' := W2) rfl (by kernel_rfl) ?_
  try (conv => lhs; change (Act.mk #[_,_,_,_,_,_,_,_,_,_,_,_,_,_,_,_,_,_,_,_,_,_,_,_,_,_,_,_,_,_,_] _))
  refine wpList_one (v := .pointer (some ⟨p, 0, none⟩)) (w' := W2) rfl (by kernel_rfl) ?_
  try (conv => lhs; change (Act.mk #[_,_,_,_,_,_,_,_,_,_,_,_,_,_,_,_,_,_,_,_,_,_,_,_,_,_,_,_,_,_,_] _))
  refine wpList_one (v := .pointer (some ⟨p, 1, none⟩)) (w' := W2) rfl (by kernel_rfl) ?_
  try (conv => lhs; change (Act.mk #[_,_,_,_,_,_,_,_,_,_,_,_,_,_,_,_,_,_,_,_,_,_,_,_,_,_,_,_,_,_,_] _))
  refine wpList_one (v := .slice (some ⟨g, 0, none⟩) l.length cap) (w' := W2) rfl (load_run (x := .tmp 16) rfl rfl (load89 HP2.out.cells.2)) ?_
  try (conv => lhs; change (Act.mk #[_,_,_,_,_,_,_,_,_,_,_,_,_,_,_,_,_,_,_,_,_,_,_,_,_,_,_,_,_,_,_] _))
  refine wpList_call rfl (f := 99) (args := #[.slice (some ⟨g, 0, none⟩) l.length cap]) (by kernel_rfl) ((clone1_any _ l.length (items l) 0 W2 HP2.out.own (Nat.le_trans HP2.out.fits HP2.out.most) (one_items l)).mono ?_)
  rintro e W3 ⟨v1, rfl, hown, hb3⟩
  refine ⟨_, rfl, ?_⟩
  try (conv => lhs; change (Act.mk #[_,_,_,_,_,_,_,_,_,_,_,_,_,_,_,_,_,_,_,_,_,_,_,_,_,_,_,_,_,_,_] _))
  obtain ⟨g1, c1, rfl, hg1, _⟩ := own_live hown (by have := HLT.out; omega)
  have HO3 := Lib.hid hown
  have HB3 := Lib.hid hb3
  have HG1 := Lib.hid hg1
  clear hown hb3 hg1
  refine wpList_one (v := .int .i64 (i : Int)) (w' := W3) rfl (by kernel_rfl) ?_
  try (conv => lhs; change (Act.mk #[_,_,_,_,_,_,_,_,_,_,_,_,_,_,_,_,_,_,_,_,_,_,_,_,_,_,_,_,_,_,_] _))
  refine wpList_one (v := .int .i64 (i : Int)) (w' := W3) rfl (by kernel_rfl) ?_
  try (conv => lhs; change (Act.mk #[_,_,_,_,_,_,_,_,_,_,_,_,_,_,_,_,_,_,_,_,_,_,_,_,_,_,_,_,_,_,_] _))
  refine wpList_one (v := .int .i64 ((i + 1 : Nat) : Int)) (w' := W3) rfl (add1_run rfl rfl (by have := HLT.out; have := HP2.out.fits; have := HP2.out.most; omega)) ?_
  try (conv => lhs; change (Act.mk #[_,_,_,_,_,_,_,_,_,_,_,_,_,_,_,_,_,_,_,_,_,_,_,_,_,_,_,_,_,_,_] _))
  refine wpList_call rfl (f := 126) (args := #[.slice (some ⟨g1, 0, none⟩) l.length c1, .int .i64 (i : Int), .int .i64 ((i + 1 : Nat) : Int)]) (by kernel_rfl) ((delete_any g1 l.length c1 i _ (items l) W3 HO3.out (Nat.le_trans HP2.out.fits HP2.out.most) HLT.out (one_items l)).mono ?_)
  rintro e W4 ⟨rfl, hown, hz4, hk4, hos4⟩
  have HOS4 : Hid (W4.os = w.os ∧ W4.output = w.output) := Lib.hid ⟨hos4.1.trans (HB3.out.os.trans HB2.out.os), hos4.2.trans (HB3.out.output.trans HB2.out.output)⟩
  clear hos4
  refine ⟨_, rfl, ?_⟩
  try (conv => lhs; change (Act.mk #[_,_,_,_,_,_,_,_,_,_,_,_,_,_,_,_,_,_,_,_,_,_,_,_,_,_,_,_,_,_,_] _))
  rw [items_erase HP.out.lens HI.out] at hown
  have hz3 := HB3.out.size
  have hk42 : ∀ k, k < B + 2 → W4.heap[k]? = W2.heap[k]? := fun k hk => (hk4 k (by have := HG1.out; have := HZ2.out; omega)).trans (HB3.out.block k (by have := HZ2.out; omega))
  have hpB : p < B := by have := HPW.out; have := HBE.out; omega
  have hcB : c < B := by have := HCW.out; have := HBE.out; omega
  have hrow4 := (hk42 p (by omega)).trans HP2.out.row
  obtain ⟨s, r, hch2⟩ := HP2.out.ch
  have hch4 := (hk42 c (by omega)).trans hch2
  have hc40 : W4.cell? ⟨p, 1, none⟩ = some (.slice (some ⟨g, 0, none⟩) l.length cap) := cell_of_row _ _ _ _ _ _ hrow4
  have hf40 : W4.frozen? ⟨p, 1, none⟩ = false := frozen_of_row _ _ _ _ _ hrow4
  have HC4 := Lib.hid hc40
  have HF4 := Lib.hid hf40
  have HO4 := Lib.hid hown
  have HK4 := Lib.hid hk42
  have HZ4 := Lib.hid (show W2.heap.size ≤ W4.heap.size by rw [hz4]; exact hz3)
  have HR4 := Lib.hid hrow4
  have HCH4 := Lib.hid hch4
  have HPB := Lib.hid hpB
  have HCB := Lib.hid hcB
  clear hown hz4 hk4 hz3 hk42 hrow4 hch2 hch4 hc40 hf40 hpB hcB
  refine wpList_one (v := .pointer (some ⟨p, 0, none⟩)) (w' := W4) rfl (by kernel_rfl) ?_
  try (conv => lhs; change (Act.mk #[_,_,_,_,_,_,_,_,_,_,_,_,_,_,_,_,_,_,_,_,_,_,_,_,_,_,_,_,_,_,_] _))
  refine wpList_one (v := .pointer (some ⟨p, 1, none⟩)) (w' := W4) rfl (by kernel_rfl) ?_
  try (conv => lhs; change (Act.mk #[_,_,_,_,_,_,_,_,_,_,_,_,_,_,_,_,_,_,_,_,_,_,_,_,_,_,_,_,_,_,_] _))
  refine wpList_put rfl 89 (.tmp 24) (.tmp 22) rfl (A := ⟨p, 1, none⟩) (v := .slice (some ⟨g1, 0, none⟩) (l.length - 1) c1) rfl rfl (store89 HC4.out HF4.out) ?_
  try (conv => lhs; change (Act.mk #[_,_,_,_,_,_,_,_,_,_,_,_,_,_,_,_,_,_,_,_,_,_,_,_,_,_,_,_,_,_,_] _))
  obtain ⟨W5, hW5⟩ : ∃ W5, W5 = W4.setCell ⟨p, 1, none⟩ (.slice (some ⟨g1, 0, none⟩) (l.length - 1) c1) := ⟨_, rfl⟩
  have hcp : c ≠ p := pool_cp HP.out
  have hr5 : W5.heap[p]? = some (.cells #[.chan (some c), .slice (some ⟨g1, 0, none⟩) (l.length - 1) c1] 91 (0, 0)) := hW5 ▸ (heap_setCell_same _ _ _ _ _ _ HR4.out).trans rfl
  have hk5 : ∀ k, k ≠ p → W5.heap[k]? = W4.heap[k]? := fun k hk => hW5 ▸ heap_setCell_other _ _ _ _ hk
  have hz5 : W5.heap.size = W4.heap.size := by rw [hW5]; simp
  have HOS5 : Hid (W5.os = w.os ∧ W5.output = w.output) := Lib.hid (by rw [hW5]; exact HOS4.out)
  have hch5 := (hk5 c hcp).trans HCH4.out
  have HC5 := Lib.hid (show W5.cell? ⟨p, 0, none⟩ = some (.chan (some c)) from cell_of_row _ _ _ _ _ _ hr5)
  rw [← hW5]
  have HR5 := Lib.hid hr5
  have HK5 := Lib.hid hk5
  have HZ5 := Lib.hid hz5
  have HCH5 := Lib.hid hch5
  have HCP := Lib.hid hcp
  clear hr5 hk5 hz5 hch5 hW5 hcp
  go_upto_region 3 with (fail)
  refine wp_region_from ?_
  change RegFrom _ _ _ [0, 1, 2, 3, 4] _ _
  refine RegFrom.value (v := .pointer (some ⟨p, 0, none⟩)) (w' := W5) rfl rfl (by kernel_rfl) ?_
  try (conv => lhs; change (Act.mk #[_,_,_,_,_,_,_,_,_,_,_,_,_,_,_,_,_,_,_,_,_,_,_,_,_,_,_,_,_,_,_] _))
  refine RegFrom.value (v := .pointer (some ⟨p, 0, none⟩)) (w' := W5) rfl rfl (by kernel_rfl) ?_
  try (conv => lhs; change (Act.mk #[_,_,_,_,_,_,_,_,_,_,_,_,_,_,_,_,_,_,_,_,_,_,_,_,_,_,_,_,_,_,_] _))
  refine RegFrom.value (v := .pointer (some ⟨p, 0, none⟩)) (w' := W5) rfl rfl (by kernel_rfl) ?_
  try (conv => lhs; change (Act.mk #[_,_,_,_,_,_,_,_,_,_,_,_,_,_,_,_,_,_,_,_,_,_,_,_,_,_,_,_,_,_,_] _))
  refine RegFrom.value (v := .chan (some c)) (w' := W5) rfl rfl (load_run (x := .tmp 27) rfl rfl (load88 HC5.out)) ?_
  try (conv => lhs; change (Act.mk #[_,_,_,_,_,_,_,_,_,_,_,_,_,_,_,_,_,_,_,_,_,_,_,_,_,_,_,_,_,_,_] _))
  refine RegFrom.recv rfl rfl (recv_run (x := .tmp 28) rfl rfl) HCH5.out (by simp; exact Nat.lt_of_le_of_lt (Nat.zero_le _) HLT.out) ?_
  refine RegFrom.plain ?_
  obtain ⟨W6, hW6⟩ : ∃ W6, W6 = W5.setChan c most ((Array.replicate l.length (.agg #[])).extract 1 (Array.replicate l.length (.agg #[] : Value)).size) false s (r + 1) false := ⟨_, rfl⟩
  rw [← hW6]
  have hbuf : (Array.replicate l.length (Value.agg #[])).extract 1 (Array.replicate l.length (.agg #[] : Value)).size = Array.replicate (l.eraseIdx i).length (Value.agg #[]) := by
    rw [List.length_eraseIdx, if_pos HLT.out]; simp
  have hch6 : W6.heap[c]? = some (.chan most (Array.replicate (l.eraseIdx i).length (.agg #[])) false s (r + 1) false) := by
    rw [hW6, Conc.heap_setChan _ _ _ _ _ _ _ _ (Array.getElem?_eq_some_iff.1 HCH5.out).1, hbuf]
  have hk6 : ∀ k, k ≠ c → W6.heap[k]? = W5.heap[k]? := fun k hk => hW6 ▸ setChan_ne _ _ _ _ _ _ _ hk
  have hz6 : W6.heap.size = W5.heap.size := by rw [hW6, Conc.size_setChan]
  have HOS6 : Hid (W6.os = w.os ∧ W6.output = w.output) := Lib.hid (by rw [hW6]; exact HOS5.out)
  have hk62 : ∀ k, k < B + 2 → k ≠ p → k ≠ c → W6.heap[k]? = W2.heap[k]? := fun k h1 h2 h3 => (hk6 k h3).trans ((HK5.out k h2).trans (HK4.out k h1))
  have HN5 := Lib.hid ((hk62 (B + 1) (by omega) (by have := HPB.out; omega) (by have := HCB.out; omega)).trans HN5.out)
  have HN4 := Lib.hid ((hk62 B (by omega) (by have := HPB.out; omega) (by have := HCB.out; omega)).trans HN4.out)
  have hg6 : W6.heap[g1]? = W4.heap[g1]? := (hk6 g1 (by have := HG1.out; have := HZ2.out; have := HCB.out; omega)).trans (HK5.out g1 (by have := HG1.out; have := HZ2.out; have := HPB.out; omega))
  have HCH6 := Lib.hid hch6
  have HK6 := Lib.hid hk6
  have HZ6 := Lib.hid hz6
  have HK62 := Lib.hid hk62
  have HG6 := Lib.hid hg6
  clear hW6 hbuf hch6 hk6 hz6 hk62 hg6
  change Exit.then _ _ Exit.normal _ _
  go_upto_region 4 with (fail)
  refine wp_region_lit ?_
  refine wpList_one (w' := W6) rfl (load_run (x := .tmp 5) rfl rfl (one_load (g := B + 1) (one_row HN5.out) HPL.out)) ?_
  try (conv => lhs; change (Act.mk #[_,_,_,_,_,_,_,_,_,_,_,_,_,_,_,_,_,_,_,_,_,_,_,_,_,_,_,_,_,_,_] _))
  refine wpList_put rfl 139 (.tmp 4) (.tmp 30) rfl (A := ⟨B, 0, none⟩) (v := .agg (oneL (hh prev n) prev n).toArray) rfl rfl (one_store HN4.out (by kernel_rfl) HPL.out) ?_
  try (conv => lhs; change (Act.mk #[_,_,_,_,_,_,_,_,_,_,_,_,_,_,_,_,_,_,_,_,_,_,_,_,_,_,_,_,_,_,_] _))
  obtain ⟨W7, hW7⟩ : ∃ W7, W7 = W6.setRow B (oneL (hh prev n) prev n).toArray := ⟨_, rfl⟩
  rw [← hW7]
  have hr7 : W7.heap[B]? = some (.cells (oneL (hh prev n) prev n).toArray 139 (0, 0)) := hW7 ▸ setRow_heap _ _ _ _ _ _ HN4.out
  have hk7 : ∀ k, k ≠ B → W7.heap[k]? = W6.heap[k]? := fun k hk => hW7 ▸ setRow_other _ _ _ _ hk
  have hz7 : W7.heap.size = W6.heap.size := by rw [hW7, setRow_size]
  have HOS7 : Hid (W7.os = w.os ∧ W7.output = w.output) := Lib.hid (by rw [hW7]; exact HOS6.out)
  have HR7 := Lib.hid hr7
  have HK7 := Lib.hid hk7
  have HZ7 := Lib.hid hz7
  clear hr7 hk7 hz7 hW7
  go_wp2_with fail
  refine bodyPost_ret (results_cell_row rfl _ _ B 139 _ (0, 0) _ rfl HR7.out Try.underlying139 rfl (size139 _ prev n (hh_length _ _) HPL.out)) rfl ⟨rfl, .slice (some ⟨g1, 0, none⟩) (l.length - 1) c1, ⟨?_, ⟨s, r + 1, ?_⟩, ?_, ?_, ?_, ?_, ?_, HP.out.most⟩, ⟨?_, ?_, ?_, HOS7.out⟩⟩
  · exact (HK7.out p (by have := HPB.out; omega)).trans ((HK6.out p (Ne.symm HCP.out)).trans HR5.out)
  · exact (HK7.out c (by have := HCB.out; omega)).trans HCH6.out
  · rw [List.length_eraseIdx, if_pos HLT.out]
    exact own_of_block HO4.out (fun k hk => by cases hk; exact (HK7.out g1 (by have := HG1.out; have := HZ2.out; omega)).trans HG6.out) (Nat.zero_le _)
  · intro h; have : g1 = p := Option.some.inj h; have := HG1.out; have := HZ2.out; have := HPB.out; omega
  · intro h; have : g1 = c := Option.some.inj h; have := HG1.out; have := HZ2.out; have := HCB.out; omega
  · exact Good.sub (l := l) HP.out.lens fun b hb => List.mem_of_mem_eraseIdx hb
  · rw [List.length_eraseIdx, if_pos HLT.out]; have := HP.out.fits; omega
  · rw [HZ7.out, HZ6.out, HZ5.out]; exact Nat.le_trans HB2.out.size HZ4.out
  · intro k h1 h2 h3 h4
    exact (HK7.out k (by have := HBE.out; omega)).trans ((HK62.out k (by have := HBE.out; omega) h2 h3).trans (HB2.out.block k h1))
  · exact .inr fun k hk => by have : g1 = k := Option.some.inj hk; have := HG1.out; have := HZ2.out; have := HBE.out; omega
end Go.Proofs.Ytdecbimklomdjaa
