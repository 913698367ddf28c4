/- Laws for a region that draws its order, walked by hand under a condition on the world; an operation of a plain region out of its run; A region of one goroutine's that holds a communication: a send with room, a receive of what lies there, a select of one send with a default; purserlaw27.behind, block.Copy; purser/orphans: a pool as blocks; New, none, Len, Room. -/
import Derived.Test.YtdecbimklomdjaaBlk
import Derived.Deep.RegionHeld
import Derived.Conc.LoneSelect
import Derived.BigQuiet
namespace Go.Proofs.Ytdecbimklomdjaa
open Go Go.RowKit Go.Shelf
/-- An operation of a plain region, out of its run. -/
theorem wpList_one {P : Program} {ops : Array Oper} {rest : List Oper} {o : Oper} {a : Act} {w w' : World} {Q : Exit → Act → World → Prop} (hgd : o.guard = none) {v : Value} (h : (execOp a.eval o).run P w = .ok (.value v) w')
    (hK : wpList P ops Q rest (a.put o.dst v) w') : wpList P ops Q (o :: rest) a w :=
  wpList_plain hgd fun K hK' => by
    unfold Oper.wp
    rw [h]
    exact hK' _ _ hK
theorem move_run {P : Program} {o : Oper} {ρ : Operand → Value} {w : World} {x : Operand} {v : Value} (ho : o.op = .move x) (hx : ρ x = v) : (execOp ρ o).run P w = .ok (.value v) w := by
  unfold execOp
  simp only [ho, hx, Sem.run_pure]
theorem load_run {P : Program} {o : Oper} {ρ : Operand → Value} {w : World} {ty : TypeId} {x : Operand} {A : Addr} {v : Value} (ho : o.op = .load ty x) (hx : ρ x = .pointer (some A)) (hl : (loadVar ty A).run P w = .ok v w) :
    (execOp ρ o).run P w = .ok (.value v) w := by
  unfold execOp
  simp only [ho, hx, Instr.loadAt, Instr.sureAddr, Sem.run_bind, Sem.run_pure, Result.andThen_ok, hl]
/-- A load that may be taken first. -/
theorem held_load {P : Program} {ops : Array Oper} {S : World → Prop} {op : Oper} {a : Act} (hg : op.guard = none) (ty : TypeId) (x : Operand) (ho : op.op = .load ty x)
    {A : Addr} {v : Value} (hx : a.eval x = .pointer (some A)) (hS : ∀ w, S w → (loadVar ty A).run P w = .ok v w) : YieldsIf P ops S op v a :=
  .inl ⟨by simp [Region.wanted, hg], fun w hw => load_run ho hx (hS w hw)⟩
/-- What yields in whatever world may be taken first. -/
theorem held_pure {P : Program} {ops : Array Oper} {S : World → Prop} {op : Oper} {a : Act} (hg : op.guard = none) {v : Value} (h : ∀ w, (execOp a.eval op).run P w = .ok (.value v) w) : YieldsIf P ops S op v a :=
  .inl ⟨by simp [Region.wanted, hg], fun w _ => h w⟩
theorem blk_row (w : World) (g : Nat) (l : List Value) (ty : TypeId) (d : TypeDesc) (fr : Nat × Nat) (t : TypeId) (hg : w.heap[g]? = some (.cells l.toArray t fr)) (hu : Try.prog.underlying ty = some d) (hd : d.isRow = true) (hi : (Try.prog.info? ty).map (·.size) = some l.length) :
    (loadVar ty ⟨g, 0, none⟩).run Try.prog w = .ok (.agg l.toArray) w :=
  run_loadVar_mid w g 0 ty l d (fun j v hj => by rw [Nat.zero_add, cell_of_row _ _ _ _ _ _ hg, List.getElem?_toArray]; exact hj) hu hd hi
theorem blk_part (w : World) (g o : Nat) (l m : List Value) (ty : TypeId) (d : TypeDesc) (fr : Nat × Nat) (t : TypeId) (hg : w.heap[g]? = some (.cells l.toArray t fr)) (hm : ∀ j v, m[j]? = some v → l[o + j]? = some v) (hu : Try.prog.underlying ty = some d) (hd : d.isRow = true) (hi : (Try.prog.info? ty).map (·.size) = some m.length) :
    (loadVar ty ⟨g, o, none⟩).run Try.prog w = .ok (.agg m.toArray) w :=
  run_loadVar_mid w g o ty m d (fun j v hj => by rw [cell_of_row _ _ _ _ _ _ hg, List.getElem?_toArray]; exact hm j v hj) hu hd hi
theorem part_head {α : Type} (m r : List α) (j : Nat) (v : α) (h : m[j]? = some v) : (m ++ r)[0 + j]? = some v := by
  rw [Nat.zero_add, List.getElem?_append_left (List.getElem?_eq_some_iff.1 h).1]; exact h
theorem part_mid {α : Type} (a m r : List α) (o j : Nat) (v : α) (ho : a.length = o) (h : m[j]? = some v) : (a ++ m ++ r)[o + j]? = some v := by
  rw [← ho, List.append_assoc, List.getElem?_append_right (by omega), Nat.add_sub_cancel_left, List.getElem?_append_left (List.getElem?_eq_some_iff.1 h).1]; exact h
end Go.Proofs.Ytdecbimklomdjaa
namespace Go.Proofs.Ytdecbimklomdjaa
open Go Go.RowKit Go.Shelf Go.Conc
/-- From within a region: the operations 'l' are still to come. -/
def RegFrom (P : Program) (ops : Array Oper) (Q : Exit → Act → World → Prop) (l : List Nat) (a : Act) (w : World) : Prop :=
  ∀ (b : Frame) (k : List Item) (cs : List Frame), ∃ e a' w', Q e a' w' ∧ Arrives P (lone (b.at a (.inRegion ops l :: k)) cs w) b k cs e a' w'
section
variable {P : Program} {ops : Array Oper} {Q : Exit → Act → World → Prop} {a : Act} {w w' : World} {i : Nat} {rest : List Nat} {o : Oper}
theorem wp_region_from {id : Nat} (h : RegFrom P ops Q (List.range ops.size) a w) : (Code.region id ops false).wp P Q a w := fun b k cs =>
  let ⟨e, a', w', q, r⟩ := h b k cs
  ⟨e, a', w', q, .of_steps (.one step_region) r⟩
theorem RegFrom.plain {l : List Nat} (h : wpOps P ops Q l a w) : RegFrom P ops Q l a w := wp_ops l a w h
theorem RegFrom.next {v : Value} (ho : ops[i]? = some o) (hs : ∀ (b : Frame) (k : List Item) (cs : List Frame), step P (lone (b.at a (.inRegion ops (i :: rest) :: k)) cs w) = .next (lone ((b.at a (.inRegion ops (i :: rest) :: k)).finish v) cs w'))
    (h : RegFrom P ops Q rest (a.put o.dst v) w') : RegFrom P ops Q (i :: rest) a w := fun b k cs => by
  obtain ⟨e, a', w'', q, r⟩ := h b k cs
  refine ⟨e, a', w'', q, .of_steps (.one ?_) r⟩
  rw [hs b k cs, Frame.finish_at, ho]
  rfl
theorem RegFrom.value {v : Value} (ho : ops[i]? = some o) (hg : o.guard = none) (hr : (execOp a.eval o).run P w = .ok (.value v) w')
    (h : RegFrom P ops Q rest (a.put o.dst v) w') : RegFrom P ops Q (i :: rest) a w :=
  RegFrom.next ho (fun b k cs => step_lone_go (by
    rw [stepG_op ho (by simp [Region.wanted, hg])]
    simp [stepG.apply, hr])) h
theorem stepG_comm' {cases : Array CommCase} {blocking : Bool} {shape : CommShape} (ho : ops[i]? = some o) (hg : o.guard = none) (hr : (execOp a.eval o).run P w = .ok (.comm cases blocking shape) w')
    (b : Frame) (k : List Item) (cs : List Frame) : ∃ es, stepG P true (G (b.at a (.inRegion ops (i :: rest) :: k)) cs) w = .comm (G (b.at a (.inRegion ops (i :: rest) :: k)) cs) cases blocking shape w' es := by
  have := stepG_op (P := P) (b := b) (k := k) (cs := cs) (w := w) (rest := rest) ho (a := a) (by simp [Region.wanted, hg])
  unfold G
  rw [this]
  simp [stepG.apply, hr, GStep.after]
theorem RegFrom.send {c cap s r : Nat} {v z : Value} {buf : Array Value} {tm : Bool} (ho : ops[i]? = some o) (hg : o.guard = none) (hr : (execOp a.eval o).run P w = .ok (.comm #[scase c v z] true .send) w)
    (hc : w.heap[c]? = some (.chan cap buf false s r tm)) (hroom : buf.size < cap) (h : RegFrom P ops Q rest (a.put o.dst undef) (w.setChan c cap (buf.push v) false (s + 1) r tm)) : RegFrom P ops Q (i :: rest) a w :=
  RegFrom.next ho (fun b k cs => by
    obtain ⟨es, he⟩ := stepG_comm' (rest := rest) ho hg hr b k cs
    exact step_lone_send_room he hc hroom) h
theorem RegFrom.recv {c cap s r : Nat} {z : Value} {buf : Array Value} {tm : Bool} (ho : ops[i]? = some o) (hg : o.guard = none) (hr : (execOp a.eval o).run P w = .ok (.comm #[rcase c z] true (.recv false)) w)
    (hc : w.heap[c]? = some (.chan cap buf false s r tm)) (hsome : 0 < buf.size) (h : RegFrom P ops Q rest (a.put o.dst (buf.getD 0 undef)) (w.setChan c cap (buf.extract 1 buf.size) false s (r + 1) tm)) : RegFrom P ops Q (i :: rest) a w :=
  RegFrom.next ho (fun b k cs => by
    obtain ⟨es, he⟩ := stepG_comm' (rest := rest) ho hg hr b k cs
    exact step_lone_recv_buf false he hc hsome) h
theorem RegFrom.room {c cap s r : Nat} {v z : Value} {buf : Array Value} {tm : Bool} (ho : ops[i]? = some o) (hg : o.guard = none) (hr : (execOp a.eval o).run P w = .ok (.comm #[scase c v z] false .select) w)
    (hc : w.heap[c]? = some (.chan cap buf false s r tm)) (hroom : buf.size < cap) (h : RegFrom P ops Q rest (a.put o.dst (.tuple #[goInt 0, .bool false])) (w.setChan c cap (buf.push v) false (s + 1) r tm)) : RegFrom P ops Q (i :: rest) a w :=
  RegFrom.next ho (fun b k cs => by
    obtain ⟨es, he⟩ := stepG_comm' (rest := rest) ho hg hr b k cs
    exact step_lone_select_send_room he hc hroom) h
theorem RegFrom.full {c cap s r : Nat} {v z : Value} {buf : Array Value} {tm : Bool} (ho : ops[i]? = some o) (hg : o.guard = none) (hr : (execOp a.eval o).run P w = .ok (.comm #[scase c v z] false .select) w)
    (hc : w.heap[c]? = some (.chan cap buf false s r tm)) (hfull : cap ≤ buf.size) (h : RegFrom P ops Q rest (a.put o.dst (.tuple #[goInt (-1), .bool false])) w) : RegFrom P ops Q (i :: rest) a w :=
  RegFrom.next ho (fun b k cs => by
    obtain ⟨es, he⟩ := stepG_comm' (rest := rest) ho hg hr b k cs
    exact step_lone_select_send_full he hc hfull) h
/-- What is left of the region, as a list of operations. -/
theorem RegFrom.list {l : List Oper} (n : Nat) (h : wpList P l.toArray Q (l.drop n) a w) : RegFrom P l.toArray Q (List.range' n (l.length - n)) a w := by
  refine RegFrom.plain ?_
  have : (l.drop n).length = l.length - n := by simp
  rw [← this, wpOps_eq_wpList (ops := l.toArray) (l.drop n) n (fun j => by rw [List.getElem?_drop, List.getElem?_toArray])]
  exact h
end
end Go.Proofs.Ytdecbimklomdjaa
namespace Go.Proofs.Ytdecbimklomdjaa
open Go Go.RowKit Go.Shelf
set_option maxRecDepth 100000 in
set_option maxHeartbeats 1000000 in
theorem behind27_any (prev : List UInt8) (n : Nat) (hp : prev.length = 32) (hn : n < 4294967296) (w : World) :
    Calls Try.prog 46 #[.agg (bytesA prev), .int .u32 (n : Int)] w fun e w' => e = .returned (.tuple #[.agg (blkL prev n).toArray, .agg (bytesA (hh prev n))]) ∧ Below w.heap.size w w' := by
  obtain ⟨W1, hW1, hb1, hn1, hn2, hn3, hsz⟩ := three_at w (.cells (bytesA prev) 28) (.cells (blkL (Sha.zeros 32) 0).toArray 60) (.cells (bytesA (Sha.zeros 32)) 28)
  obtain ⟨B, hB⟩ : ∃ B, B = w.heap.size := ⟨_, rfl⟩
  have HB1 := Lib.hid hb1
  have HN1 := Lib.hid hn1
  have HN2 := Lib.hid hn2
  have HN3 := Lib.hid hn3
  have HP := Lib.hid hp
  have HN := Lib.hid hn
  have HS := Lib.hid hsz
  have HW1 := Lib.hid hW1
  have HBE := Lib.hid hB
  clear hb1 hn1 hn2 hn3 hsz hp hn hW1
  rw [← hB] at HN1 HN2 HN3
  clear hB
  go_enter Try.func46, Try.ntmps46
  go_upto_region 1 with (fail)
  change Code.wp Try.prog _ _ _ (((w.alloc (.cells (bytesA prev) 28)).alloc (.cells (blkL (Sha.zeros 32) 0).toArray 60)).alloc (.cells (bytesA (Sha.zeros 32)) 28))
  rw [HW1.out, ← HBE.out]
  refine wp_region_lit ?_
  refine wpList_load_row rfl 28 (.tmp 2) rfl B rfl 28 _ (0, 0) _ HN1.out Try.underlying28 rfl (by rw [size_bytesA, HP.out]; kernel_rfl) ?_
  refine wpList_one rfl (move_run (x := .tmp 1) rfl rfl) ?_
  refine wpList_build_to rfl 57 #[(1, .tmp 7), (5, .tmp 8)] rfl (hdrL prev n).toArray (by simp only [List.map_toArray, List.map_cons, List.map_nil]; exact built57 prev n HP.out) ?_
  refine wpList_build_to rfl 60 #[(0, .tmp 9)] rfl (blkL prev n).toArray (by simp only [List.map_toArray, List.map_cons, List.map_nil]; exact built60 prev n HP.out) ?_
  refine wpList_one (v := .pointer (some ⟨W1.heap.size, 0, none⟩)) (w' := W1.alloc (.cells Try.zeroCells60 60)) rfl (by kernel_rfl) ?_
  refine wpList_store_row rfl 60 (.tmp 6) (.tmp 10) rfl W1.heap.size (blkL prev n).toArray rfl rfl 60 _ (heap_alloc_new W1 _) (size60 prev n HP.out) (Eq.trans (b := 69) (by kernel_rfl) (by rw [List.size_toArray, blkL_length prev n HP.out])) (all_cells (one_blk prev n)) ?_
  rw [World.setRow_alloc_new]
  obtain ⟨W2, hW2⟩ : ∃ W2, W2 = W1.alloc (.cells (blkL prev n).toArray 60) := ⟨_, rfl⟩
  obtain ⟨p0, hp0⟩ : ∃ p0, p0 = W1.heap.size := ⟨_, rfl⟩
  have hb12 : Below W1.heap.size W1 W2 := hW2 ▸ (Below.refl _ _).alloc (Nat.le_refl _) _
  have HK : Hid (W2.heap[p0]? = some (.cells (blkL prev n).toArray 60 (0, 0))) := Lib.hid (by rw [hW2, hp0]; exact heap_alloc_new _ _)
  replace HN2 := Lib.hid (block_below' hb12 HN2.out)
  replace HN3 := Lib.hid (block_below' hb12 HN3.out)
  have HB2 := Lib.hid (HB1.out.trans (hb12.mono HB1.out.size))
  have HNE : Hid (p0 ≠ B + 1) := Lib.hid (by rw [hp0, HS.out, HBE.out]; omega)
  have HNF : Hid (p0 ≠ B + 2) := Lib.hid (by rw [hp0, HS.out, HBE.out]; omega)
  rw [← hW2, ← hp0]
  clear hb12 hW2 hp0 HN1 HW1 HB1 HS
  go_wp2_with fail
  refine wp_region_held_drew (S := (fun w' => w'.heap[p0]? = some (.cells (blkL prev n).toArray 60 (0, 0)))) (by kernel_rfl) HK.out (fun hS => ?_)
  refine wpAnyH_take (i := 0) (v := .agg (blkL prev n).toArray) rfl (by kernel_rfl) (by kernel_rfl) (by kernel_rfl) (fun _ _ _ h => h) (held_load rfl 60 (.tmp 6) rfl (A := ⟨p0, 0, none⟩) rfl (fun w hw => blk_row w p0 (blkL prev n) 60 _ (0, 0) 60 hw Try.underlying60 rfl ((size60 prev n HP.out).trans (by rw [List.size_toArray])))) hS ?_
  refine wpAnyH_take (i := 1) (v := ?_) rfl (by kernel_rfl) (by kernel_rfl) (by kernel_rfl) (fun _ _ _ h => h) (held_pure rfl ?_) hS ?_
  rotate_left
  · intro w; go_simp; all_goals rfl
  rotate_left
  refine wpAnyH_take (i := 2) (v := .agg (hdrL prev n).toArray) rfl (by kernel_rfl) (by kernel_rfl) (by kernel_rfl) (fun _ _ _ h => h) (held_load rfl 57 (.tmp 12) rfl (A := ⟨p0, 0, none⟩) rfl (fun w hw => blk_part w p0 0 (blkL prev n) (hdrL prev n) 57 _ (0, 0) 60 hw (part_head _ _) Try.underlying57 rfl ((size57 prev n HP.out).trans (by rw [List.size_toArray])))) hS ?_
  refine wpAnyH_ready (rs := [3]) (by kernel_rfl) (by simp) ?_
  refine AllReadyH.cons rfl (fun K hK => ?_) AllReadyH.nil
  go_simp
  refine (bhash_any prev n HP.out HN.out _).mono ?_
  rintro e W3 ⟨rfl, hb3⟩
  have hb3' : Below W2.heap.size W2 W3 := (Below.refl _ _).drew.trans hb3
  have HN2' := Lib.hid (block_below' hb3' HN2.out)
  have HN3' := Lib.hid (block_below' hb3' HN3.out)
  have HK' := Lib.hid (block_below' hb3' HK.out)
  have HB3 := Lib.hid (HB2.out.trans (hb3'.mono HB2.out.size))
  clear hb3 hb3'
  refine hK.out _ _ HK'.out (fun hS => ?_); clear hK K
  refine wpAnyH_ready (rs := [4]) (by kernel_rfl) (by simp) ?_
  refine AllReadyH.cons rfl (fun K hK => ?_) AllReadyH.nil
  refine step_store rfl 60 (.tmp 4) (.tmp 11) rfl (A := ⟨B + 1, 0, none⟩) rfl rfl (run_storeVar_row _ (B + 1) 60 60 _ (blkL prev n).toArray HN2'.out (size60 prev n HP.out) (by rw [List.size_toArray, List.size_toArray, blkL_length prev n HP.out, blkL_length _ _ (by rfl)]) (all_cells (one_blk prev n))) ?_
  have HK4 := Lib.hid ((setRow_other W3 (B + 1) p0 (blkL prev n).toArray HNE.out).trans HK'.out)
  have HN4 := Lib.hid (setRow_heap W3 (B + 1) _ (blkL prev n).toArray _ _ HN2'.out)
  have HN5 := Lib.hid ((setRow_other W3 (B + 1) (B + 2) (blkL prev n).toArray (by omega)).trans HN3'.out)
  have HB4 := Lib.hid (below_setRow HB3.out (show w.heap.size ≤ B + 1 by have := HBE.out; omega) (blkL prev n).toArray)
  refine hK.out _ _ HK4.out (fun hS => ?_); clear hK K
  refine wpAnyH_ready (rs := [5]) (by kernel_rfl) (by simp) ?_
  refine AllReadyH.cons rfl (fun K hK => ?_) AllReadyH.nil
  refine step_store rfl 28 (.tmp 5) (.tmp 14) rfl (A := ⟨B + 2, 0, none⟩) rfl rfl (run_storeVar_row _ (B + 2) 28 28 _ (bytesA (hh prev n)) HN5.out (by rw [size_bytesA, hh_length]; kernel_rfl) (by rw [size_bytesA, size_bytesA, hh_length]; rfl) (all_bytes _)) ?_
  refine hK.out _ _ ((setRow_other _ (B + 2) p0 (bytesA (hh prev n)) HNF.out).trans HK4.out) (fun hS => ?_); clear hK K
  refine wpAnyH_done (by kernel_rfl) ?_ _
  go_wp2_with fail
  exact bodyPost_ret (results_rows2 rfl _ _ rfl rfl (blk_row _ (B + 1) (blkL prev n) 60 _ (0, 0) 60 ((setRow_other _ (B + 2) (B + 1) (bytesA (hh prev n)) (by omega)).trans HN4.out) Try.underlying60 rfl ((size60 prev n HP.out).trans (by rw [List.size_toArray])))
    (blk_row _ (B + 2) ((hh prev n).map V8) 28 _ (0, 0) 28 (setRow_heap _ (B + 2) _ (bytesA (hh prev n)) _ _ HN5.out) Try.underlying28 rfl (by rw [List.length_map, hh_length]; kernel_rfl))) rfl ⟨rfl, below_setRow HB4.out (show w.heap.size ≤ B + 2 by have := HBE.out; omega) _⟩
end Go.Proofs.Ytdecbimklomdjaa
namespace Go.Proofs.Ytdecbimklomdjaa
open Go Go.RowKit Go.Shelf
/-- A pool's blocks, by parent and number; as cells. -/
def items (l : List (List UInt8 × Nat)) : List Value := l.flatMap fun b => oneL (hh b.1 b.2) b.1 b.2
/-- A pool: its block p, its channel c, its row v. -/
structure PoolAt (w : World) (p c : Nat) (v : Value) (most : Nat) (l : List (List UInt8 × Nat)) : Prop where
  row : w.heap[p]? = some (.cells #[.chan (some c), v] 91 (0, 0))
  ch : ∃ s r, w.heap[c]? = some (.chan most (Array.replicate l.length (.agg #[])) false s r false)
  own : w.ownsRow 0 139 101 v l.length (items l)
  offp : v.ownBlock ≠ some p
  offc : v.ownBlock ≠ some c
  lens : ∀ b ∈ l, b.1.length = 32 ∧ b.2 < 4294967296
  fits : l.length ≤ most
  most : most ≤ 50
/-- What a step on a pool may turn. -/
structure Moved (p c : Nat) (v : Value) (w : World) (v' : Value) (w' : World) : Prop where
  size : w.heap.size ≤ w'.heap.size
  block : ∀ i, i < w.heap.size → i ≠ p → i ≠ c → v.ownBlock ≠ some i → w'.heap[i]? = w.heap[i]?
  row : v'.ownBlock = v.ownBlock ∨ ∀ k, v'.ownBlock = some k → w.heap.size ≤ k
  kept : w'.os = w.os ∧ w'.output = w.output
theorem Moved.trans {p c : Nat} {v v' v'' : Value} {w w' w'' : World} (h : Moved p c v w v' w') (h' : Moved p c v' w' v'' w'') : Moved p c v w v'' w'' := by
  refine ⟨Nat.le_trans h.size h'.size, fun i hi h1 h2 h3 => ?_, ?_, h'.kept.1.trans h.kept.1, h'.kept.2.trans h.kept.2⟩
  · refine (h'.block i (Nat.lt_of_lt_of_le hi h.size) h1 h2 fun e => ?_).trans (h.block i hi h1 h2 h3)
    rcases h.row with hr | hr
    · exact h3 (hr ▸ e)
    · have := hr i e; omega
  · rcases h'.row with hr' | hr'
    · rcases h.row with hr | hr
      · exact .inl (hr'.trans hr)
      · exact .inr fun k hk => hr k (hr' ▸ hk)
    · exact .inr fun k hk => Nat.le_trans h.size (hr' k hk)
theorem Moved.of_below {p c : Nat} {v : Value} {w w' : World} (h : Below w.heap.size w w') : Moved p c v w v w' :=
  ⟨h.size, fun i hi _ _ _ => h.block i hi, .inl rfl, h.os, h.output⟩
theorem PoolAt.below {w w' : World} {p c : Nat} {v : Value} {most : Nat} {l : List (List UInt8 × Nat)} (h : PoolAt w p c v most l) (hb : Below w.heap.size w w') : PoolAt w' p c v most l := by
  obtain ⟨s, r, hc⟩ := h.ch
  exact ⟨block_below' hb h.row, ⟨s, r, block_below' hb hc⟩, h.own.kept (grownBy_of_below hb none) (own_some v), h.offp, h.offc, h.lens, h.fits, h.most⟩
theorem PoolAt.drew {w : World} {p c : Nat} {v : Value} {most : Nat} {l : List (List UInt8 × Nat)} (h : PoolAt w p c v most l) : PoolAt w.drew p c v most l := h.below (Below.refl _ _).drew
theorem PoolAt.cells {w : World} {p c : Nat} {v : Value} {most : Nat} {l : List (List UInt8 × Nat)} (h : PoolAt w p c v most l) : w.cell? ⟨p, 0, none⟩ = some (.chan (some c)) ∧ w.cell? ⟨p, 1, none⟩ = some v :=
  ⟨cell_of_row _ _ _ _ _ _ h.row, cell_of_row _ _ _ _ _ _ h.row⟩
set_option maxRecDepth 100000 in
theorem new_bad (n : Int) (h : n < 0 ∨ 50 < n) (h1 : -9223372036854775808 ≤ n) (h2 : n < 9223372036854775808) (w : World) :
    Calls Try.prog 37 #[.int .i64 n] w fun e w' => e = .returned (.tuple #[.pointer none, .int .i64 2]) ∧ w = w' := by
  by_cases h0 : n < 0
  · go_enter Try.func37, Try.ntmps37
    go_wp2_with fail
    exact bodyPost_ret (results_tmp2 rfl _ _ _) rfl ⟨rfl, rfl⟩
  · have h5 : 50 < n := by omega
    go_enter Try.func37, Try.ntmps37
    go_wp2_with fail
    exact bodyPost_ret (results_tmp2 rfl _ _ _) rfl ⟨rfl, rfl⟩
set_option maxRecDepth 100000 in
theorem new_ok (n : Nat) (h : n ≤ 50) (w : World) :
    Calls Try.prog 37 #[.int .i64 (n : Int)] w fun e w' => e = .returned (.tuple #[.pointer (some ⟨w.heap.size + 1, 0, none⟩), .int .i64 0]) ∧ PoolAt w' (w.heap.size + 1) w.heap.size (.slice none 0 0) n [] ∧ Below w.heap.size w w' := by
  have h0 : ¬ (n : Int) < 0 := by omega
  have h1 : ¬ (50 : Int) < n := by omega
  obtain ⟨i, hi, hb⟩ : ∃ i, Try.prog.info? 140 = some i ∧ i.bytes = 0 := ⟨_, rfl, rfl⟩
  have hM : (Instr.makeChan 88 (.int .i64 (n : Int))).run Try.prog w = .ok (.chan (some w.heap.size)) (w.alloc (.chan n #[] false 0 0 false)) := Conc.run_makeChan Try.underlying88 hi .i64 n (by omega) (by rw [hb]; omega)
  go_enter Try.func37, Try.ntmps37
  go_wp2_with fail
  refine bodyPost_ret (results_tmp2 rfl _ _ _) rfl ⟨?_, ?_, ?_⟩
  · rfl
  · have ht := two_new w (.chan n #[] false 0 0 false) (.cells #[.chan (some w.heap.size), .slice none 0 0] 91)
    obtain ⟨W1, hW1, _, h2, h3, _⟩ := ht
    rw [hW1]
    exact ⟨h3, ⟨0, 0, h2⟩, World.ownsRow_nil _ _ _ _, by simp [Value.ownBlock], by simp [Value.ownBlock], by simp, by simp, h⟩
  · exact ((Below.refl _ _).alloc (Nat.le_refl _) _).alloc (by simp) _
set_option maxRecDepth 100000 in
theorem none_live (w : World) (p c : Nat) (v : Value) (most : Nat) (l : List (List UInt8 × Nat)) (h : PoolAt w p c v most l) :
    Calls Try.prog 93 #[.pointer (some ⟨p, 0, none⟩)] w fun e w' => e = .returned (.bool false) ∧ w = w' := by
  obtain ⟨h0, _⟩ := h.cells
  have hE : ∀ w, (binOp BinOp.eql 88 (.chan (some c)) (.chan none)).run Try.prog w = .ok (.bool false) w := fun _ => by kernel_rfl
  go_enter Try.func93, Try.ntmps93
  go_wp2_with fail
  go_ret
  exact ⟨rfl, rfl⟩
set_option maxRecDepth 100000 in
theorem none_ptr (w : World) : Calls Try.prog 93 #[.pointer none] w fun e w' => e = .returned (.bool true) ∧ w = w' := by
  go_enter Try.func93, Try.ntmps93
  go_wp2_with fail
  go_ret
  exact ⟨rfl, rfl⟩
set_option maxRecDepth 100000 in
theorem none_zero (w : World) (p : Nat) (h : w.cell? ⟨p, 0, none⟩ = some (.chan none)) : Calls Try.prog 93 #[.pointer (some ⟨p, 0, none⟩)] w fun e w' => e = .returned (.bool true) ∧ w = w' := by
  have hE : ∀ w, (binOp BinOp.eql 88 (.chan none) (.chan none)).run Try.prog w = .ok (.bool true) w := fun _ => by kernel_rfl
  go_enter Try.func93, Try.ntmps93
  go_wp2_with fail
  go_ret
  exact ⟨rfl, rfl⟩
theorem getObj_chan {P : Program} {w : World} {r room s rc : Nat} {buf : Array Value} {cl tm : Bool} (h : w.heap[r]? = some (.chan room buf cl s rc tm)) : (getObj r).run P w = .ok (.chan room buf cl s rc tm) w := by
  simp [getObj, Sem.run, h]
theorem run_len_chan {w : World} {c cap s r : Nat} {buf : Array Value} (hc : w.heap[c]? = some (.chan cap buf false s r false)) (t : TypeId) : (Builtin.len_ #[88] t #[.chan (some c)]).run Try.prog w = .ok (.int .i64 (buf.size : Int)) w := by
  simp [Builtin.len_, run_underlying Try.underlying88, goInt, getObj_chan hc]
theorem run_cap_chan {w : World} {c cap s r : Nat} {buf : Array Value} (hc : w.heap[c]? = some (.chan cap buf false s r false)) (t : TypeId) : (Builtin.cap_ #[88] t #[.chan (some c)]).run Try.prog w = .ok (.int .i64 (cap : Int)) w := by
  simp [Builtin.cap_, run_underlying Try.underlying88, goInt, getObj_chan hc]
theorem PoolAt.len {w : World} {p c : Nat} {v : Value} {most : Nat} {l : List (List UInt8 × Nat)} (h : PoolAt w p c v most l) (t : TypeId) : (Builtin.len_ #[88] t #[.chan (some c)]).run Try.prog w = .ok (.int .i64 (l.length : Int)) w := by
  obtain ⟨s, r, hc⟩ := h.ch
  rw [run_len_chan hc]; simp
theorem PoolAt.cap {w : World} {p c : Nat} {v : Value} {most : Nat} {l : List (List UInt8 × Nat)} (h : PoolAt w p c v most l) (t : TypeId) : (Builtin.cap_ #[88] t #[.chan (some c)]).run Try.prog w = .ok (.int .i64 (most : Int)) w := by
  obtain ⟨s, r, hc⟩ := h.ch
  rw [run_cap_chan hc]
set_option maxRecDepth 100000 in
theorem len_none (w : World) (x : Value) (h : Calls Try.prog 93 #[x] w fun e w' => e = .returned (.bool true) ∧ w = w') :
    Calls Try.prog 42 #[x] w fun e w' => e = .returned (.int .i64 0) ∧ w = w' := by
  go_enter Try.func42, Try.ntmps42
  go_wp2_with fail
  refine h.mono ?_
  rintro e w' ⟨rfl, rfl⟩
  go_wp2_with fail
  go_ret
  exact ⟨rfl, rfl⟩
set_option maxRecDepth 100000 in
theorem room_none (w : World) (x : Value) (h : Calls Try.prog 93 #[x] w fun e w' => e = .returned (.bool true) ∧ w = w') :
    Calls Try.prog 43 #[x] w fun e w' => e = .returned (.int .i64 0) ∧ w = w' := by
  go_enter Try.func43, Try.ntmps43
  go_wp2_with fail
  refine h.mono ?_
  rintro e w' ⟨rfl, rfl⟩
  go_wp2_with fail
  go_ret
  exact ⟨rfl, rfl⟩
set_option maxRecDepth 100000 in
theorem room_live (w : World) (p c : Nat) (v : Value) (most : Nat) (l : List (List UInt8 × Nat)) (h : PoolAt w p c v most l) :
    Calls Try.prog 43 #[.pointer (some ⟨p, 0, none⟩)] w fun e w' => e = .returned (.int .i64 ((most : Int) - (l.length : Int))) ∧ Below w.heap.size w w' := by
  have hn := none_live w p c v most l h
  have HL : l.length ≤ 50 := Nat.le_trans h.fits h.most
  have HF := h.fits
  have HM := h.most
  have HD := Lib.hid h.drew
  clear h
  go_enter Try.func43, Try.ntmps43
  go_wp2_with fail
  refine hn.mono ?_
  rintro e w' ⟨rfl, rfl⟩
  clear hn
  go_wp2_with fail
  obtain ⟨W, hW⟩ : ∃ W, W = w.drew := ⟨_, rfl⟩
  have HB : Hid (Below w.heap.size w W) := Lib.hid (hW ▸ (Below.refl _ _).drew)
  rw [← hW] at HD
  refine wp_region_held_drew (S := (fun w' => w' = W)) (by kernel_rfl) hW.symm (fun hS => ?_)
  rw [← hW]
  clear hW
  obtain ⟨h0, _⟩ := HD.out.cells
  have hlen := fun t => HD.out.len t
  have hcap := fun t => HD.out.cap t
  replace hS : W = W := rfl
  refine wpAnyH_take (i := 0) (v := ?_) rfl (by kernel_rfl) (by kernel_rfl) (by kernel_rfl) (fun _ _ _ h => h) (.inl ⟨by rfl, ?_⟩) hS ?_
  rotate_left
  · intro w' hw; subst hw; go_simp; all_goals rfl
  rotate_left
  refine wpAnyH_take (i := 1) (v := ?_) rfl (by kernel_rfl) (by kernel_rfl) (by kernel_rfl) (fun _ _ _ h => h) (.inl ⟨by rfl, ?_⟩) hS ?_
  rotate_left
  · intro w' hw; subst hw; go_simp; all_goals rfl
  rotate_left
  refine wpAnyH_take (i := 2) (v := ?_) rfl (by kernel_rfl) (by kernel_rfl) (by kernel_rfl) (fun _ _ _ h => h) (.inl ⟨by rfl, ?_⟩) hS ?_
  rotate_left
  · intro w' hw; subst hw; go_simp; all_goals rfl
  rotate_left
  refine wpAnyH_take (i := 3) (v := ?_) rfl (by kernel_rfl) (by kernel_rfl) (by kernel_rfl) (fun _ _ _ h => h) (.inl ⟨by rfl, ?_⟩) hS ?_
  rotate_left
  · intro w' hw; subst hw; go_simp; all_goals rfl
  rotate_left
  refine wpAnyH_take (i := 4) (v := ?_) rfl (by kernel_rfl) (by kernel_rfl) (by kernel_rfl) (fun _ _ _ h => h) (.inl ⟨by rfl, ?_⟩) hS ?_
  rotate_left
  · intro w' hw; subst hw; go_simp; all_goals rfl
  rotate_left
  refine wpAnyH_take (i := 5) (v := ?_) rfl (by kernel_rfl) (by kernel_rfl) (by kernel_rfl) (fun _ _ _ h => h) (.inl ⟨by rfl, ?_⟩) hS ?_
  rotate_left
  · intro w' hw; subst hw; go_simp; all_goals rfl
  rotate_left
  refine wpAnyH_take (i := 6) (v := ?_) rfl (by kernel_rfl) (by kernel_rfl) (by kernel_rfl) (fun _ _ _ h => h) (.inl ⟨by rfl, ?_⟩) hS ?_
  rotate_left
  · intro w' hw; subst hw; go_simp; all_goals rfl
  rotate_left
  refine wpAnyH_take (i := 7) (v := ?_) rfl (by kernel_rfl) (by kernel_rfl) (by kernel_rfl) (fun _ _ _ h => h) (.inl ⟨by rfl, ?_⟩) hS ?_
  rotate_left
  · intro w' hw; subst hw; go_simp; all_goals rfl
  rotate_left
  refine wpAnyH_take (i := 8) (v := ?_) rfl (by kernel_rfl) (by kernel_rfl) (by kernel_rfl) (fun _ _ _ h => h) (.inl ⟨by rfl, ?_⟩) hS ?_
  rotate_left
  · intro w' hw; subst hw; go_simp; all_goals rfl
  rotate_left
  refine wpAnyH_take (i := 9) (v := ?_) rfl (by kernel_rfl) (by kernel_rfl) (by kernel_rfl) (fun _ _ _ h => h) (.inl ⟨by rfl, ?_⟩) hS ?_
  rotate_left
  · intro w' hw; subst hw; go_simp; all_goals rfl
  rotate_left
  refine wpAnyH_take (i := 10) (v := ?_) rfl (by kernel_rfl) (by kernel_rfl) (by kernel_rfl) (fun _ _ _ h => h) (.inl ⟨by rfl, ?_⟩) hS ?_
  rotate_left
  · intro w' hw; subst hw; go_simp; all_goals rfl
  rotate_left
  refine wpAnyH_take (i := 11) (v := ?_) rfl (by kernel_rfl) (by kernel_rfl) (by kernel_rfl) (fun _ _ _ h => h) (.inl ⟨by rfl, ?_⟩) hS ?_
  rotate_left
  · intro w' hw; subst hw; go_simp; all_goals rfl
  rotate_left
  refine wpAnyH_done (by kernel_rfl) ?_ _
  go_wp2_with fail
  go_ret
  exact ⟨by show Ending.returned (.int .i64 (IntKind.i64.wrap _)) = _; rw [IntKind.wrap_i64]; congr 2; omega, HB.out⟩
set_option maxRecDepth 100000 in
theorem len_live (w : World) (p c : Nat) (v : Value) (most : Nat) (l : List (List UInt8 × Nat)) (h : PoolAt w p c v most l) :
    Calls Try.prog 42 #[.pointer (some ⟨p, 0, none⟩)] w fun e w' => e = .returned (.int .i64 (l.length : Int)) ∧ w = w' := by
  obtain ⟨h0, _⟩ := h.cells
  have hlen := fun t => h.len t
  have hn := none_live w p c v most l h
  have HL : l.length ≤ 50 := Nat.le_trans h.fits h.most
  clear h
  go_enter Try.func42, Try.ntmps42
  go_wp2_with fail
  refine hn.mono ?_
  rintro e w' ⟨rfl, rfl⟩
  clear hn
  go_wp2_with fail
  go_ret
  exact ⟨rfl, rfl⟩
end Go.Proofs.Ytdecbimklomdjaa
