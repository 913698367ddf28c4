/- purserlaw09.behind and purserlaw09.SignBinds: their walks. -/
import Derived.Test.YtdecbimklomdjaaTold
import Derived.Test.YtdecbimklomdjaaMeet
import Derived.Test.YtdecbimklomdjaaMonoF
namespace Go.Proofs.Ytdecbimklomdjaa
open Go Go.RowKit Go.Shelf
def behP (W B : Nat) (s : List UInt8) : Nat → Value → World → Prop
  | 0, v, _ => ∃ b, v = .slice (some ⟨b, 0, none⟩) 0 0
  | 1, v, _ => v = .slice (some ⟨B, 0, none⟩) 32 32
  | 2, v, w => ∃ base, W ≤ base ∧ w.ownsRow base 5 1 v 32 (s.map V8)
  | _, v, _ => v = .slice (some ⟨B + 1, 0, none⟩) 32 32
theorem behP_stable (W B : Nat) (s : List UInt8) (i : Nat) (v : Value) (w w' : World) (h : behP W B s i v w) (hb : Below w.heap.size w w') : behP W B s i v w' := by
  unfold behP at *
  split at h
  · exact h
  · exact h
  · obtain ⟨base, h1, h2⟩ := h
    exact ⟨base, h1, h2.kept (grownBy_of_below hb none) (.inr (by
      intro e
      rcases h2.2 with ⟨_, h0⟩ | ⟨g, c, cur, hv, _⟩
      · omega
      · rw [hv] at e; cases e))⟩
  · exact h
set_option maxRecDepth 100000 in
set_option maxHeartbeats 1000000 in
theorem behind_any (s d : List UInt8) (hs : s.length = 32) (hd : d.length = 32) (w : World) :
    Calls Try.prog 60 #[.agg (bytesA s), .agg (bytesA d)] w fun e w' => ∃ v, e = .returned v ∧ Below w.heap.size w w' ∧ ∃ a c, v = .slice a 64 c ∧ BytesAt w' v (s ++ d) := by
  obtain ⟨W1, hW1, hb1, hn1, hn2, hsz⟩ := two_new w (.cells (bytesA s) 28) (.cells (bytesA d) 28)
  obtain ⟨i0, hi, hz0, hz1, hz2⟩ := info_parts info5
  have HI := Lib.hid hi
  have HI0 := Lib.hid hz0
  have HI1 := Lib.hid hz1
  have HI2 := Lib.hid hz2
  clear hi hz0 hz1 hz2
  go_enter Try.func60, Try.ntmps60
  go_wp2_with fail
  try rw [hW1]
  obtain ⟨B, hB⟩ : ∃ B, B = w.heap.size := ⟨_, rfl⟩
  have Hs : Hid (W1.heap[B]? = some (.cells (bytesA s) 28 (0, 0))) := Lib.hid (by rw [hB]; exact hn1)
  have Hd : Hid (W1.heap[B + 1]? = some (.cells (bytesA d) 28 (0, 0))) := Lib.hid (by rw [hB]; exact hn2)
  rw [← hB]
  refine G.wp_region_mono 4 (by kernel_rfl) (by kernel_rfl) (behP W1.heap.size B s) (behP_stable _ B s) ⟨?_, ?_, ?_, ?_, trivial⟩ ?_
  · intro vals a w1 hb hs' hd'
    refine want rfl ?_
    refine head_val (.slice (some ⟨w1.heap.size, 0, none⟩) 0 0) (w' := w1.alloc (.cells #[] 5)) ?_ ((Below.refl _ _).alloc (Nat.le_refl _) _) ⟨_, rfl⟩
    generalize a.eval = ρ at *
    clear hs' hd'
    go_simp
  · intro vals a w1 hb hs' hd'
    refine want rfl ?_
    have e2 : a.eval (.tmp 2) = Value.pointer (some ⟨B, 0, none⟩) := hs' 2 (by decide)
    refine head_val (.slice (some ⟨B, 0, none⟩) 32 32) ?_ (Below.refl _ _) rfl
    generalize a.eval = ρ at *
    clear hs' hd'
    go_simp
  · intro vals a w1 hb hs' hd'
    refine want rfl ?_
    obtain ⟨b0, eb0⟩ := (hd' 0 (by decide)).2
    have e5 : a.eval (.tmp 5) = .slice (some ⟨b0, 0, none⟩) 0 0 := (hd' 0 (by decide)).1.trans eb0
    have e6 : a.eval (.tmp 6) = _ := (hd' 1 (by decide)).1.trans (hd' 1 (by decide)).2
    obtain ⟨v', w', hrun, r1, r2⟩ := run_append_arg_grows (P := Try.prog) w1 25 25 5 i0 (.int .u8 0) 1 1 Try.underlying25 HI.out HI0.out HI1.out HI2.out rfl (by decide) ⟨b0, 0, none⟩ 0 0 [] rfl (fun j u h => by simp at h) ⟨B, 0, none⟩ 32 32 (s.map V8) (by simp [hs]) (cells_at (row_range ((hb.block _ (Array.getElem?_eq_some_iff.1 Hs.out).1).trans Hs.out))) (by omega) (by unfold maxLen; omega) (by omega)
    refine head_val v' (w' := w') ?_ (below_of_grown r2 (by simp)) ⟨w1.heap.size, hb.size, by simpa using r1⟩
    simp only [execOp, resolve, invoke, builtin, e5, e6, Sem.run_bind, Sem.run_pure, Result.andThen_ok, List.map_toArray, List.map_cons, List.map_nil, hrun]
  · intro vals a w1 hb hs' hd'
    refine want rfl ?_
    have e3 : a.eval (.tmp 3) = Value.pointer (some ⟨B + 1, 0, none⟩) := hs' 3 (by decide)
    refine head_val (.slice (some ⟨B + 1, 0, none⟩) 32 32) ?_ (Below.refl _ _) rfl
    generalize a.eval = ρ at *
    clear hs' hd'
    go_simp
  intro vals W3 hb3 hall
  obtain ⟨b0, h0⟩ := hall 0 (by omega)
  have h1 : vals 1 = .slice (some ⟨B, 0, none⟩) 32 32 := hall 1 (by omega)
  obtain ⟨base, hbase, hown⟩ := hall 2 (by omega)
  have h3 : vals 3 = .slice (some ⟨B + 1, 0, none⟩) 32 32 := hall 3 (by omega)
  obtain ⟨v2, h2⟩ : ∃ v, vals 2 = v := ⟨_, rfl⟩
  rw [h2] at hown
  clear hall
  simp only [List.take_succ_cons, List.take_zero, List.drop_succ_cons, List.drop_zero, G.putHeads, List.zipIdx_cons, List.zipIdx_nil, List.foldl_cons, List.foldl_nil, Act.put, List.setIfInBounds_toArray, List.set_cons_zero, List.set_cons_succ, Nat.zero_add, Nat.reduceAdd, h0, h1, h2, h3]
  have hlt : ∀ k, v2.ownBlock = some k → base ≤ k := fun k hk => (hown.lt k hk).1
  have hcell := cells_at (row_range ((hb3.block _ (Array.getElem?_eq_some_iff.1 Hd.out).1).trans Hd.out))
  have hbw : base ≤ W3.heap.size := by
    rcases hown.2 with ⟨_, h⟩ | ⟨g, _, _, hv, hg, hc, _⟩
    · omega
    · exact Nat.le_trans hg (Nat.le_of_lt (Array.getElem?_eq_some_iff.1 hc).1)
  refine wpList_append_own _ rfl (.tmp 7) (.tmp 8) 25 rfl base 5 i0 (.int .u8 0) 1 1 Try.underlying25 HI.out HI0.out HI1.out HI2.out rfl (by decide) v2 32 (s.map V8) rfl hown ⟨B + 1, 0, none⟩ 32 32 (d.map V8) rfl (by simp [hd]) hcell (all_v8 d) (by unfold maxLen; omega) (by omega) hbw ?_
  intro v' w' hown' hgr _
  have hown2 : w'.ownsRow base 5 1 v' (s ++ d).length ((s ++ d).map V8) := by rw [List.length_append, hs, hd, List.map_append]; exact hown'
  have hl : (s ++ d).length = 64 := by rw [List.length_append, hs, hd]
  have hby := BytesAt.of_owns hown2
  obtain ⟨a, c, hv⟩ := owns_parts hown2
  rw [hl] at hv
  have hw1 : w.heap.size ≤ W1.heap.size := hb1.size
  have hbl : Below w.heap.size w w' := (hb1.trans (hb3.mono hw1)).grown hgr (Nat.le_trans hw1 hb3.size) (fun k hk => Nat.le_trans hw1 (Nat.le_trans hbase (hlt k hk)))
  clear hown hown' hgr hown2 hcell hb3 hlt
  subst hv
  go_wp2_with fail
  go_ret
  exact ⟨_, rfl, hbl, a, c, rfl, hby⟩

theorem freshV {P : Program} {o : Oper} {a : Act} {w w' : World} {j : Nat} {N : List Nat} {Φ : Nat → Value → World → Prop} {Q : Exit → Act → World → Prop} (v : Value) (hr : (execOp a.eval o).run P w = .ok (.value v) w') (hb : Below w.heap.size w w') (hp : Φ j v w') (hf : F.Fresh v w w') :
    o.wp P a w (fun a' w' => ∃ v, a' = a.put o.dst v ∧ Below w.heap.size w w' ∧ Φ j v w' ∧ (j ∈ N → F.Fresh v w w')) Q := by
  unfold Oper.wp
  rw [hr]
  exact ⟨v, rfl, hb, hp, fun _ => hf⟩
def bind2 (W : Nat) (s o : List UInt8) : Nat → Value → World → Prop
  | 0, v, _ => v = .agg (bytesA s)
  | 1, v, _ => v = .agg (bytesA (Sha.hash s))
  | 2, v, _ => v = .agg (bytesA o)
  | 3, v, _ => v = .agg (bytesA (Sha.hash o))
  | _, v, w => ∃ b c, v = .pointer (some ⟨b, 0, none⟩) ∧ W ≤ b ∧ w.heap[b]? = some (.cells c 28 (0, 0)) ∧ c.size = 32
theorem bind2_stable (W : Nat) (s o : List UInt8) (i : Nat) (v : Value) (w w' : World) (h : bind2 W s o i v w) (hb : Below w.heap.size w w') : bind2 W s o i v w' := by
  unfold bind2 at *
  split at h
  · exact h
  · exact h
  · exact h
  · exact h
  · obtain ⟨b, c, h1, h2, h3, h4⟩ := h; exact ⟨b, c, h1, h2, block_below hb h3, h4⟩
def bind3 (W : Nat) (s o d : List UInt8) : Nat → Value → World → Prop
  | 0, v, _ => v = .agg (bytesA s)
  | 1, v, _ => v = .agg (bytesA d)
  | 2, v, w => ∃ g, v = .slice (some ⟨g, 0, none⟩) 64 64 ∧ W ≤ g ∧ w.heap[g]? = some (.cells (bytesA (s ++ Sha.hash (s ++ d))) 5 (0, 0))
  | 3, v, _ => v = .agg (bytesA o)
  | 4, v, _ => v = .agg (bytesA d)
  | _, v, w => ∃ g, v = .slice (some ⟨g, 0, none⟩) 64 64 ∧ W ≤ g ∧ w.heap[g]? = some (.cells (bytesA (o ++ Sha.hash (o ++ d))) 5 (0, 0))
theorem bind3_stable (W : Nat) (s o d : List UInt8) (i : Nat) (v : Value) (w w' : World) (h : bind3 W s o d i v w) (hb : Below w.heap.size w w') : bind3 W s o d i v w' := by
  unfold bind3 at *
  split at h
  · exact h
  · exact h
  · obtain ⟨g, h1, h2, h3⟩ := h; exact ⟨g, h1, h2, block_below hb h3⟩
  · exact h
  · exact h
  · obtain ⟨g, h1, h2, h3⟩ := h; exact ⟨g, h1, h2, block_below hb h3⟩
def bind4 (k1 k2 g1 g2 : Nat) (d : List UInt8) : Nat → Value
  | 0 => .slice (some ⟨k1, 0, none⟩) 32 32
  | 1 => .slice (some ⟨g1, 0, none⟩) 64 64
  | 2 => .agg (bytesA d)
  | 3 => .bool true
  | 4 => .bool false
  | 5 => .bool false
  | 6 => .slice (some ⟨k2, 0, none⟩) 32 32
  | 7 => .slice (some ⟨g2, 0, none⟩) 64 64
  | 8 => .agg (bytesA d)
  | 9 => .bool true
  | _ => .bool false
def isBeh (v : Value) (w : World) (l : List UInt8) : Prop := ∃ a c, v = .slice a 64 c ∧ BytesAt w v l
def bind6 (B : Nat) (s o d m : List UInt8) : Nat → Value → World → Prop
  | 0, v, _ => v = .slice (some ⟨B, 0, none⟩) 32 32
  | 1, v, _ => v = .slice (some ⟨B + 1, 0, none⟩) 32 32
  | 2, v, _ => v = .agg (bytesA s)
  | 3, v, _ => v = .agg (bytesA d)
  | 4, v, w => isBeh v w (s ++ d)
  | 5, v, _ => v = .agg (bytesA s)
  | 6, v, _ => v = .agg (bytesA m)
  | 7, v, w => isBeh v w (s ++ m)
  | 8, v, _ => v = .agg (bytesA o)
  | 9, v, _ => v = .agg (bytesA d)
  | 10, v, w => isBeh v w (o ++ d)
  | 11, v, w => ∃ b, v = .slice (some ⟨b, 0, none⟩) 5 5 ∧ b < w.heap.size ∧ ∃ u0 u1 u2 u3 u4, w.cell? ⟨b, 0, none⟩ = some u0 ∧ w.cell? ⟨b, 1, none⟩ = some u1 ∧ w.cell? ⟨b, 2, none⟩ = some u2 ∧ w.cell? ⟨b, 3, none⟩ = some u3 ∧ w.cell? ⟨b, 4, none⟩ = some u4 ∧
      BytesAt w u0 s ∧ BytesAt w u1 o ∧ BytesAt w u2 (s ++ d) ∧ BytesAt w u3 (s ++ m) ∧ BytesAt w u4 (o ++ d)
  | _, v, _ => ∃ r, v = .bool r ∧ (r = false → hitB o s = false ∧ hitB (s ++ m) (s ++ d) = false)
theorem bind6_stable (B : Nat) (s o d m : List UInt8) (i : Nat) (v : Value) (w w' : World) (h : bind6 B s o d m i v w) (hb : Below w.heap.size w w') : bind6 B s o d m i v w' := by
  unfold bind6 isBeh at *
  split at h
  · exact h
  · exact h
  · exact h
  · exact h
  · obtain ⟨a, c, h1, h2⟩ := h; exact ⟨a, c, h1, h2.below hb⟩
  · exact h
  · exact h
  · obtain ⟨a, c, h1, h2⟩ := h; exact ⟨a, c, h1, h2.below hb⟩
  · exact h
  · exact h
  · obtain ⟨a, c, h1, h2⟩ := h; exact ⟨a, c, h1, h2.below hb⟩
  · obtain ⟨b, h1, hlt, u0, u1, u2, u3, u4, c0, c1, c2, c3, c4, y0, y1, y2, y3, y4⟩ := h
    exact ⟨b, h1, Nat.lt_of_lt_of_le hlt hb.size, u0, u1, u2, u3, u4, (hb.cell (p := ⟨b, 0, none⟩) hlt).trans c0, (hb.cell (p := ⟨b, 1, none⟩) hlt).trans c1, (hb.cell (p := ⟨b, 2, none⟩) hlt).trans c2, (hb.cell (p := ⟨b, 3, none⟩) hlt).trans c3, (hb.cell (p := ⟨b, 4, none⟩) hlt).trans c4, y0.below hb, y1.below hb, y2.below hb, y3.below hb, y4.below hb⟩
  · exact h
def bind8 (k1 k2 g1 g2 : Nat) (s o d m : List UInt8) : Nat → Value
  | 2 => .slice (some ⟨k1, 0, none⟩) 32 32
  | 3 => .slice (some ⟨g1, 0, none⟩) 64 64
  | 4 => .agg (bytesA m)
  | 5 => .bool (m == d)
  | 6 => .agg (bytesA m)
  | 7 => .agg (bytesA d)
  | 8 => .bool (m == d)
  | 12 => .slice (some ⟨k1, 0, none⟩) 32 32
  | 13 => .slice (some ⟨g2, 0, none⟩) 64 64
  | 14 => .agg (bytesA d)
  | 15 => .bool (o == s)
  | 16 => .agg (bytesA o)
  | 17 => .agg (bytesA s)
  | 18 => .bool (o == s)
  | 22 => .slice (some ⟨k2, 0, none⟩) 32 32
  | 23 => .slice (some ⟨g1, 0, none⟩) 64 64
  | 24 => .agg (bytesA d)
  | 25 => .bool (o == s)
  | 26 => .agg (bytesA o)
  | 27 => .agg (bytesA s)
  | 28 => .bool (o == s)
  | 32 => .agg (bytesA (Sha.hash s))
  | 33 => .agg (bytesA (Sha.hash o))
  | 34 => .bool (Sha.hash s == Sha.hash o)
  | 35 => .agg (bytesA s)
  | 36 => .agg (bytesA o)
  | 37 => .bool (s == o)
  | _ => .bool true
theorem eqlB (x y : List UInt8) (W : World) (hx : x.length = 32) (hy : y.length = 32) : (binOp .eql 28 (.agg (bytesA x)) (.agg (bytesA y))).run Try.prog W = .ok (.bool (x == y)) W := eql28 x y W hx hy
theorem own_sig (s d : List UInt8) (hs : s.length = 32) : isB (Sha.hash s) (s ++ Sha.hash (s ++ d)) d = true := by rw [isB_sign _ _ _ hs, beq_self_eq_true]
theorem isB_mix (k s t e : List UInt8) (hs : s.length = 32) : isB (Sha.hash k) (s ++ Sha.hash t) e = (Sha.hash s == Sha.hash k && Sha.hash (s ++ e) == Sha.hash t) := by
  unfold isB
  rw [List.take_left' hs, List.drop_left' hs, hash_length, List.length_append, hs, hash_length]
  simp
theorem apart_eq (x y : List UInt8) (h : hitB x y = false) : (Sha.hash x == Sha.hash y) = (x == y) := by
  by_cases e : x = y
  · rw [e, beq_self_eq_true, beq_self_eq_true]
  · unfold hitB at h
    rw [bne_iff_ne.2 e, Bool.true_and] at h
    rw [h, beq_eq_false_iff_ne.2 e]

def four (W : World) (B : Nat) (s o d m : List UInt8) : Prop := W.heap[B]? = some (.cells (bytesA s) 28 (0, 0)) ∧ W.heap[B + 1]? = some (.cells (bytesA o) 28 (0, 0)) ∧ W.heap[B + 2]? = some (.cells (bytesA d) 28 (0, 0)) ∧ W.heap[B + 3]? = some (.cells (bytesA m) 28 (0, 0))
theorem four.below {W W' : World} {B : Nat} {s o d m : List UInt8} (h : four W B s o d m) (hb : Below W.heap.size W W') : four W' B s o d m := ⟨block_below hb h.1, block_below hb h.2.1, block_below hb h.2.2.1, block_below hb h.2.2.2⟩
theorem four_at (w : World) (A B C D : Obj) : ∃ W1, (((w.alloc A).alloc B).alloc C).alloc D = W1 ∧ Below w.heap.size w W1 ∧ W1.heap[w.heap.size]? = some A ∧ W1.heap[w.heap.size + 1]? = some B ∧ W1.heap[w.heap.size + 2]? = some C ∧ W1.heap[w.heap.size + 3]? = some D ∧ W1.heap.size = w.heap.size + 4 := by
  obtain ⟨W1, h0, h1, h2, h3, h4, h5⟩ := three_at w A B C
  refine ⟨W1.alloc D, by rw [h0], h1.alloc h1.size _, (heap_alloc_lt (by omega)).trans h2, (heap_alloc_lt (by omega)).trans h3, (heap_alloc_lt (by omega)).trans h4, ?_, by simp [h5]⟩
  have := heap_alloc_new W1 D
  rwa [h5] at this
theorem sig64 {w : World} {g : Nat} {l : List UInt8} (hg : w.heap[g]? = some (.cells (bytesA l) 5 (0, 0))) (hl : l.length = 64) : BytesAt w (.slice (some ⟨g, 0, none⟩) 64 64) l := by
  have := bytesAt_row hg 64 (by omega) (by unfold maxLen; omega)
  rwa [hl] at this
set_option maxRecDepth 100000 in
set_option maxHeartbeats 4000000 in
theorem binds_any (s o d m : List UInt8) (hs : s.length = 32) (ho : o.length = 32) (hd : d.length = 32) (hm : m.length = 32) (w : World) :
    Calls Try.prog 12 #[.agg (bytesA s), .agg (bytesA o), .agg (bytesA d), .agg (bytesA m)] w fun e w' => e = .returned (.bool true) ∧ Below w.heap.size w w' := by
  have HIS : Hid ((Try.prog.info? 28).map (·.size) = some (s.map V8).length) := Lib.hid (by rw [List.length_map, hs]; kernel_rfl)
  have HIO : Hid ((Try.prog.info? 28).map (·.size) = some (o.map V8).length) := Lib.hid (by rw [List.length_map, ho]; kernel_rfl)
  have HID : Hid ((Try.prog.info? 28).map (·.size) = some (d.map V8).length) := Lib.hid (by rw [List.length_map, hd]; kernel_rfl)
  have HIM : Hid ((Try.prog.info? 28).map (·.size) = some (m.map V8).length) := Lib.hid (by rw [List.length_map, hm]; kernel_rfl)
  have HHk1 : Hid ((Try.prog.info? 28).map (·.size) = some ((Sha.hash s).map V8).length) := Lib.hid (by rw [List.length_map, hash_length]; kernel_rfl)
  have HHk2 : Hid ((Try.prog.info? 28).map (·.size) = some ((Sha.hash o).map V8).length) := Lib.hid (by rw [List.length_map, hash_length]; kernel_rfl)
  obtain ⟨W1, hW1, hb1, hn1, hn2, hn3, hn4, hsz⟩ := four_at w (.cells (bytesA s) 28) (.cells (bytesA o) 28) (.cells (bytesA d) 28) (.cells (bytesA m) 28)
  have hf1 : four W1 w.heap.size s o d m := ⟨hn1, hn2, hn3, hn4⟩
  go_enter Try.func12, Try.ntmps12
  go_wp2_with fail
  try rw [hW1]
  refine (alive_any W1).mono ?_
  rintro e W2 ⟨rfl, hb2⟩
  have HBW := Lib.hid (hb1.trans (hb2.mono hb1.size))
  have hBW : w.heap.size ≤ W2.heap.size := HBW.out.size
  obtain ⟨B, hB⟩ : ∃ B, B = w.heap.size := ⟨_, rfl⟩
  rw [← hB] at hf1
  have HQ := Lib.hid (hf1.below hb2)
  go_wp2_with fail
  rw [← hB]
  clear hB hb1 hn1 hn2 hn3 hn4 hf1 hW1 hb2 hsz
  obtain ⟨hrs, hro, hrd, hrm⟩ := HQ.out
  have Hs := Lib.hid hrs
  have Ho := Lib.hid hro
  have Hd := Lib.hid hrd
  have Hm := Lib.hid hrm
  clear hrs hro hrd hrm
  refine F.wp_region_mono 6 (by kernel_rfl) (by kernel_rfl) (bind2 W2.heap.size s o) [4, 5] (bind2_stable _ s o) ⟨?_, ?_, ?_, ?_, ?_, ?_, trivial⟩ ?_
  · intro vals a w1 hb hs' hd'
    refine want rfl (F.other (by decide) ?_)
    have e4 : a.eval (.tmp 4) = Value.pointer (some ⟨B, 0, none⟩) := hs' 4 (by decide)
    have hl := run_loadVar_mid (P := Try.prog) w1 (B) (0) 28 (s.map V8) _ (row_range ((hb.block _ (Array.getElem?_eq_some_iff.1 Hs.out).1).trans Hs.out)) Try.underlying28 rfl HIS.out
    refine head_val (.agg (bytesA s)) ?_ (Below.refl _ _) rfl
    generalize a.eval = ρ at *
    clear hs' hd'
    simp only [execOp, e4, Instr.loadAt, Instr.sureAddr, Sem.run_bind, Sem.run_pure, Result.andThen_ok, hl]
    rfl
  · intro vals a w1 hb hs' hd'
    refine want rfl (F.other (by decide) ?_)
    have e15 : a.eval (.tmp 15) = _ := (hd' 0 (by decide)).1.trans (hd' 0 (by decide)).2
    have ef : a.eval (.func 33) = .func (.func 33) #[] #[] := rfl
    refine head_call (f := 33) (args := #[.agg (bytesA s)]) ?_ ((public_any s hs w1).mono fun e w' h => ⟨_, h.1, h.2, rfl⟩)
    generalize a.eval = ρ at *
    clear hs' hd'
    go_simp
  · intro vals a w1 hb hs' hd'
    refine want rfl (F.other (by decide) ?_)
    have e5 : a.eval (.tmp 5) = Value.pointer (some ⟨B + 1, 0, none⟩) := hs' 5 (by decide)
    have hl := run_loadVar_mid (P := Try.prog) w1 (B + 1) (0) 28 (o.map V8) _ (row_range ((hb.block _ (Array.getElem?_eq_some_iff.1 Ho.out).1).trans Ho.out)) Try.underlying28 rfl HIO.out
    refine head_val (.agg (bytesA o)) ?_ (Below.refl _ _) rfl
    generalize a.eval = ρ at *
    clear hs' hd'
    simp only [execOp, e5, Instr.loadAt, Instr.sureAddr, Sem.run_bind, Sem.run_pure, Result.andThen_ok, hl]
    rfl
  · intro vals a w1 hb hs' hd'
    refine want rfl (F.other (by decide) ?_)
    have e17 : a.eval (.tmp 17) = _ := (hd' 2 (by decide)).1.trans (hd' 2 (by decide)).2
    have ef : a.eval (.func 33) = .func (.func 33) #[] #[] := rfl
    refine head_call (f := 33) (args := #[.agg (bytesA o)]) ?_ ((public_any o ho w1).mono fun e w' h => ⟨_, h.1, h.2, rfl⟩)
    generalize a.eval = ρ at *
    clear hs' hd'
    go_simp
  · intro vals a w1 hb hs' hd'
    refine want rfl (freshV (.pointer (some ⟨w1.heap.size, 0, none⟩)) (w' := w1.alloc (.cells (bytesA (Sha.zeros 32)) 28)) ?_ ((Below.refl _ _).alloc (Nat.le_refl _) _) ⟨_, _, rfl, hb.size, heap_alloc_new _ _, rfl⟩ ⟨_, rfl, Nat.le_refl _, by simp⟩)
    generalize a.eval = ρ at *
    clear hs' hd'
    go_simp
    rfl
  · intro vals a w1 hb hs' hd'
    refine want rfl (freshV (.pointer (some ⟨w1.heap.size, 0, none⟩)) (w' := w1.alloc (.cells (bytesA (Sha.zeros 32)) 28)) ?_ ((Below.refl _ _).alloc (Nat.le_refl _) _) ⟨_, _, rfl, hb.size, heap_alloc_new _ _, rfl⟩ ⟨_, rfl, Nat.le_refl _, by simp⟩)
    generalize a.eval = ρ at *
    clear hs' hd'
    go_simp
    rfl
  intro vals W3 hb3 hall hap
  have h0 : vals 0 = .agg (bytesA s) := hall 0 (by omega)
  have h1 : vals 1 = .agg (bytesA (Sha.hash s)) := hall 1 (by omega)
  have h2 : vals 2 = .agg (bytesA o) := hall 2 (by omega)
  have h3 : vals 3 = .agg (bytesA (Sha.hash o)) := hall 3 (by omega)
  obtain ⟨k1, z1, h4, hk1, hz1, hc1⟩ := hall 4 (by omega)
  obtain ⟨k2, z2, h5, hk2, hz2, hc2⟩ := hall 5 (by omega)
  have hne : k1 ≠ k2 := fun e => hap 4 5 (by omega) (by omega) (by decide) (by decide) (by omega) (by rw [h4, h5, e])
  clear hall hap
  simp only [List.take_succ_cons, List.take_zero, List.drop_succ_cons, List.drop_zero, F.putHeads, List.zipIdx_cons, List.zipIdx_nil, List.foldl_cons, List.foldl_nil, Act.put, List.setIfInBounds_toArray, List.set_cons_zero, List.set_cons_succ, Nat.zero_add, Nat.reduceAdd, h0, h1, h2, h3, h4, h5]
  have hc1' : z1.size = (bytesA (Sha.hash s)).size := by rw [size_bytesA, hash_length]; exact hc1
  have hc2' : z2.size = (bytesA (Sha.hash o)).size := by rw [size_bytesA, hash_length]; exact hc2
  refine wpList_store_row rfl 28 (.tmp 10) (.tmp 16) rfl k1 (bytesA (Sha.hash s)) rfl rfl 28 z1 hz1 (by rw [size_bytesA, hash_length]; kernel_rfl) hc1' (all_bytes _) ?_
  refine wpList_store_row rfl 28 (.tmp 11) (.tmp 18) rfl k2 (bytesA (Sha.hash o)) rfl rfl 28 z2 ((setRow_other _ _ _ _ (Ne.symm hne)).trans hz2) (by rw [size_bytesA, hash_length]; kernel_rfl) hc2' (all_bytes _) ?_
  refine wpList_nil ?_
  obtain ⟨W4, hW4⟩ : ∃ W4, (W3.setRow k1 (bytesA (Sha.hash s))).setRow k2 (bytesA (Sha.hash o)) = W4 := ⟨_, rfl⟩
  have hb4 : Below W2.heap.size W2 W4 := by rw [← hW4]; exact below_setRow (below_setRow hb3 hk1 _) hk2 _
  have hr1 : W4.heap[k1]? = some (.cells (bytesA (Sha.hash s)) 28 (0, 0)) := by rw [← hW4]; exact (setRow_other _ _ _ _ hne).trans (setRow_heap _ _ _ _ _ _ hz1)
  have hr2 : W4.heap[k2]? = some (.cells (bytesA (Sha.hash o)) 28 (0, 0)) := by rw [← hW4]; exact setRow_heap _ _ _ _ _ _ ((setRow_other _ _ _ _ (Ne.symm hne)).trans hz2)
  rw [hW4]
  have HQ4 := Lib.hid (HQ.out.below hb4)
  have HR1 := Lib.hid hr1
  have HR2 := Lib.hid hr2
  have HB4 := Lib.hid (HBW.out.trans (hb4.mono hBW))
  clear hW4 hb4 hr1 hr2 hz1 hz2 hc1 hc2 hc1' hc2' hb3 h0 h1 h2 h3 h4 h5 Hs Ho Hd Hm HBW
  go_wp2_with fail
  obtain ⟨hrs, hro, hrd, hrm⟩ := HQ4.out
  have Hs := Lib.hid hrs
  have Ho := Lib.hid hro
  have Hd := Lib.hid hrd
  have Hm := Lib.hid hrm
  clear hrs hro hrd hrm
  refine G.wp_region_mono 6 (by kernel_rfl) (by kernel_rfl) (bind3 W4.heap.size s o d) (bind3_stable _ s o d) ⟨?_, ?_, ?_, ?_, ?_, ?_, trivial⟩ ?_
  · intro vals a w1 hb hs' hd'
    refine want rfl ?_
    have e4 : a.eval (.tmp 4) = Value.pointer (some ⟨B, 0, none⟩) := hs' 4 (by decide)
    have hl := run_loadVar_mid (P := Try.prog) w1 (B) (0) 28 (s.map V8) _ (row_range ((hb.block _ (Array.getElem?_eq_some_iff.1 Hs.out).1).trans Hs.out)) Try.underlying28 rfl HIS.out
    refine head_val (.agg (bytesA s)) ?_ (Below.refl _ _) rfl
    generalize a.eval = ρ at *
    clear hs' hd'
    simp only [execOp, e4, Instr.loadAt, Instr.sureAddr, Sem.run_bind, Sem.run_pure, Result.andThen_ok, hl]
    rfl
  · intro vals a w1 hb hs' hd'
    refine want rfl ?_
    have e6 : a.eval (.tmp 6) = Value.pointer (some ⟨B + 2, 0, none⟩) := hs' 6 (by decide)
    have hl := run_loadVar_mid (P := Try.prog) w1 (B + 2) (0) 28 (d.map V8) _ (row_range ((hb.block _ (Array.getElem?_eq_some_iff.1 Hd.out).1).trans Hd.out)) Try.underlying28 rfl HID.out
    refine head_val (.agg (bytesA d)) ?_ (Below.refl _ _) rfl
    generalize a.eval = ρ at *
    clear hs' hd'
    simp only [execOp, e6, Instr.loadAt, Instr.sureAddr, Sem.run_bind, Sem.run_pure, Result.andThen_ok, hl]
    rfl
  · intro vals a w1 hb hs' hd'
    refine want rfl ?_
    have e19 : a.eval (.tmp 19) = _ := (hd' 0 (by decide)).1.trans (hd' 0 (by decide)).2
    have e20 : a.eval (.tmp 20) = _ := (hd' 1 (by decide)).1.trans (hd' 1 (by decide)).2
    have ef : a.eval (.func 32) = .func (.func 32) #[] #[] := rfl
    refine head_call (f := 32) (args := #[.agg (bytesA s), .agg (bytesA d)]) ?_ ((sign_any s d hs hd w1).mono fun e w' h => by obtain ⟨g, h1, h2, h3, h4⟩ := h; exact ⟨_, h1, h4, g, rfl, Nat.le_trans hb.size h2, h3⟩)
    generalize a.eval = ρ at *
    clear hs' hd'
    go_simp
  · intro vals a w1 hb hs' hd'
    refine want rfl ?_
    have e5 : a.eval (.tmp 5) = Value.pointer (some ⟨B + 1, 0, none⟩) := hs' 5 (by decide)
    have hl := run_loadVar_mid (P := Try.prog) w1 (B + 1) (0) 28 (o.map V8) _ (row_range ((hb.block _ (Array.getElem?_eq_some_iff.1 Ho.out).1).trans Ho.out)) Try.underlying28 rfl HIO.out
    refine head_val (.agg (bytesA o)) ?_ (Below.refl _ _) rfl
    generalize a.eval = ρ at *
    clear hs' hd'
    simp only [execOp, e5, Instr.loadAt, Instr.sureAddr, Sem.run_bind, Sem.run_pure, Result.andThen_ok, hl]
    rfl
  · intro vals a w1 hb hs' hd'
    refine want rfl ?_
    have e6 : a.eval (.tmp 6) = Value.pointer (some ⟨B + 2, 0, none⟩) := hs' 6 (by decide)
    have hl := run_loadVar_mid (P := Try.prog) w1 (B + 2) (0) 28 (d.map V8) _ (row_range ((hb.block _ (Array.getElem?_eq_some_iff.1 Hd.out).1).trans Hd.out)) Try.underlying28 rfl HID.out
    refine head_val (.agg (bytesA d)) ?_ (Below.refl _ _) rfl
    generalize a.eval = ρ at *
    clear hs' hd'
    simp only [execOp, e6, Instr.loadAt, Instr.sureAddr, Sem.run_bind, Sem.run_pure, Result.andThen_ok, hl]
    rfl
  · intro vals a w1 hb hs' hd'
    refine want rfl ?_
    have e22 : a.eval (.tmp 22) = _ := (hd' 3 (by decide)).1.trans (hd' 3 (by decide)).2
    have e23 : a.eval (.tmp 23) = _ := (hd' 4 (by decide)).1.trans (hd' 4 (by decide)).2
    have ef : a.eval (.func 32) = .func (.func 32) #[] #[] := rfl
    refine head_call (f := 32) (args := #[.agg (bytesA o), .agg (bytesA d)]) ?_ ((sign_any o d ho hd w1).mono fun e w' h => by obtain ⟨g, h1, h2, h3, h4⟩ := h; exact ⟨_, h1, h4, g, rfl, Nat.le_trans hb.size h2, h3⟩)
    generalize a.eval = ρ at *
    clear hs' hd'
    go_simp
  intro vals W5 hb5 hall
  have h0 : vals 0 = .agg (bytesA s) := hall 0 (by omega)
  have h1 : vals 1 = .agg (bytesA d) := hall 1 (by omega)
  obtain ⟨g1, h2, _, hg1⟩ := hall 2 (by omega)
  have h3 : vals 3 = .agg (bytesA o) := hall 3 (by omega)
  have h4 : vals 4 = .agg (bytesA d) := hall 4 (by omega)
  obtain ⟨g2, h5, _, hg2⟩ := hall 5 (by omega)
  clear hall
  simp only [List.take_succ_cons, List.take_zero, List.drop_succ_cons, List.drop_zero, G.putHeads, List.zipIdx_cons, List.zipIdx_nil, List.foldl_cons, List.foldl_nil, Act.put, List.setIfInBounds_toArray, List.set_cons_zero, List.set_cons_succ, Nat.zero_add, Nat.reduceAdd, h0, h1, h2, h3, h4, h5]
  have HQ5 := Lib.hid (HQ4.out.below hb5)
  have HRk1 := Lib.hid (block_below hb5 HR1.out)
  have HRk2 := Lib.hid (block_below hb5 HR2.out)
  have HG1 := Lib.hid hg1
  have HG2 := Lib.hid hg2
  have HB5 := Lib.hid (HB4.out.trans (hb5.mono HB4.out.size))
  clear hb5 hg1 hg2 h0 h1 h2 h3 h4 h5 Hs Ho Hd Hm
  go_wp2_with fail
  obtain ⟨hrs, hro, hrd, hrm⟩ := HQ5.out
  have Hs := Lib.hid hrs
  have Ho := Lib.hid hro
  have Hd := Lib.hid hrd
  have Hm := Lib.hid hrm
  clear hrs hro hrd hrm
  have Hk1 := Lib.hid (row32 HRk1.out (hash_length s))
  have Hk2 := Lib.hid (row32 HRk2.out (hash_length o))
  have Hg1 := Lib.hid (sig64 HG1.out (by rw [List.length_append, hs, hash_length]))
  have Hg2 := Lib.hid (sig64 HG2.out (by rw [List.length_append, ho, hash_length]))
  refine G.wp_region_mono 12 (by kernel_rfl) (by kernel_rfl) (fun i v _ => v = bind4 k1 k2 g1 g2 d i) (fun _ _ _ _ h _ => h) ⟨?_, ?_, ?_, ?_, ?_, ?_, ?_, ?_, ?_, ?_, ?_, ?_, trivial⟩ ?_
  · intro vals a w1 hb hs' hd'
    refine want rfl ?_
    have e10 : a.eval (.tmp 10) = Value.pointer (some ⟨k1, 0, none⟩) := hs' 10 (by decide)
    refine head_val (.slice (some ⟨k1, 0, none⟩) 32 32) ?_ (Below.refl _ _) rfl
    generalize a.eval = ρ at *
    clear hs' hd'
    go_simp
  · intro vals a w1 hb hs' hd'
    refine want rfl ?_
    have e12 : a.eval (.tmp 12) = Value.slice (some ⟨g1, 0, none⟩) 64 64 := hs' 12 (by decide)
    refine head_val (.slice (some ⟨g1, 0, none⟩) 64 64) ?_ (Below.refl _ _) rfl
    generalize a.eval = ρ at *
    clear hs' hd'
    go_simp
  · intro vals a w1 hb hs' hd'
    refine want rfl ?_
    have e6 : a.eval (.tmp 6) = Value.pointer (some ⟨B + 2, 0, none⟩) := hs' 6 (by decide)
    have hl := run_loadVar_mid (P := Try.prog) w1 (B + 2) (0) 28 (d.map V8) _ (row_range ((hb.block _ (Array.getElem?_eq_some_iff.1 Hd.out).1).trans Hd.out)) Try.underlying28 rfl HID.out
    refine head_val (.agg (bytesA d)) ?_ (Below.refl _ _) rfl
    generalize a.eval = ρ at *
    clear hs' hd'
    simp only [execOp, e6, Instr.loadAt, Instr.sureAddr, Sem.run_bind, Sem.run_pure, Result.andThen_ok, hl]
    rfl
  · intro vals a w1 hb hs' hd'
    refine want rfl ?_
    have e25 : a.eval (.tmp 25) = _ := (hd' 0 (by decide)).1.trans (hd' 0 (by decide)).2
    simp only [bind4] at e25
    have e26 : a.eval (.tmp 26) = _ := (hd' 1 (by decide)).1.trans (hd' 1 (by decide)).2
    simp only [bind4] at e26
    have e27 : a.eval (.tmp 27) = _ := (hd' 2 (by decide)).1.trans (hd' 2 (by decide)).2
    simp only [bind4] at e27
    have ef : a.eval (.func 44) = .func (.func 44) #[] #[] := rfl
    refine head_call (f := 44) (args := #[.slice (some ⟨k1, 0, none⟩) 32 32, .slice (some ⟨g1, 0, none⟩) 64 64, .agg (bytesA d)]) ?_ ((is_any _ _ (Sha.hash s) (s ++ Sha.hash (s ++ d)) d hd w1 (Hk1.out.below hb) (Hg1.out.below hb)).mono fun e w' h => ⟨_, h.1, h.2, by rw [own_sig s d hs]; rfl⟩)
    generalize a.eval = ρ at *
    clear hs' hd'
    go_simp
  · intro vals a w1 hb hs' hd'
    refine want rfl ?_
    have e28 : a.eval (.tmp 28) = _ := (hd' 3 (by decide)).1.trans (hd' 3 (by decide)).2
    simp only [bind4] at e28
    refine head_val (.bool false) ?_ (Below.refl _ _) rfl
    generalize a.eval = ρ at *
    clear hs' hd'
    go_simp
  · intro vals a w1 hb hs' hd'
    refine want rfl ?_
    have e29 : a.eval (.tmp 29) = _ := (hd' 4 (by decide)).1.trans (hd' 4 (by decide)).2
    simp only [bind4] at e29
    refine head_val (.bool false) ?_ (Below.refl _ _) rfl
    generalize a.eval = ρ at *
    clear hs' hd'
    go_simp
  · intro vals a w1 hb hs' hd'
    refine want (gd_some rfl (hd' 5 (by decide)).2) ?_
    have e11 : a.eval (.tmp 11) = Value.pointer (some ⟨k2, 0, none⟩) := hs' 11 (by decide)
    refine head_val (.slice (some ⟨k2, 0, none⟩) 32 32) ?_ (Below.refl _ _) rfl
    generalize a.eval = ρ at *
    clear hs' hd'
    go_simp
  · intro vals a w1 hb hs' hd'
    refine want (gd_some rfl (hd' 5 (by decide)).2) ?_
    have e13 : a.eval (.tmp 13) = Value.slice (some ⟨g2, 0, none⟩) 64 64 := hs' 13 (by decide)
    refine head_val (.slice (some ⟨g2, 0, none⟩) 64 64) ?_ (Below.refl _ _) rfl
    generalize a.eval = ρ at *
    clear hs' hd'
    go_simp
  · intro vals a w1 hb hs' hd'
    refine want (gd_some rfl (hd' 5 (by decide)).2) ?_
    have e6 : a.eval (.tmp 6) = Value.pointer (some ⟨B + 2, 0, none⟩) := hs' 6 (by decide)
    have hl := run_loadVar_mid (P := Try.prog) w1 (B + 2) (0) 28 (d.map V8) _ (row_range ((hb.block _ (Array.getElem?_eq_some_iff.1 Hd.out).1).trans Hd.out)) Try.underlying28 rfl HID.out
    refine head_val (.agg (bytesA d)) ?_ (Below.refl _ _) rfl
    generalize a.eval = ρ at *
    clear hs' hd'
    simp only [execOp, e6, Instr.loadAt, Instr.sureAddr, Sem.run_bind, Sem.run_pure, Result.andThen_ok, hl]
    rfl
  · intro vals a w1 hb hs' hd'
    refine want (gd_some rfl (hd' 5 (by decide)).2) ?_
    have e31 : a.eval (.tmp 31) = _ := (hd' 6 (by decide)).1.trans (hd' 6 (by decide)).2
    simp only [bind4] at e31
    have e32 : a.eval (.tmp 32) = _ := (hd' 7 (by decide)).1.trans (hd' 7 (by decide)).2
    simp only [bind4] at e32
    have e33 : a.eval (.tmp 33) = _ := (hd' 8 (by decide)).1.trans (hd' 8 (by decide)).2
    simp only [bind4] at e33
    have ef : a.eval (.func 44) = .func (.func 44) #[] #[] := rfl
    refine head_call (f := 44) (args := #[.slice (some ⟨k2, 0, none⟩) 32 32, .slice (some ⟨g2, 0, none⟩) 64 64, .agg (bytesA d)]) ?_ ((is_any _ _ (Sha.hash o) (o ++ Sha.hash (o ++ d)) d hd w1 (Hk2.out.below hb) (Hg2.out.below hb)).mono fun e w' h => ⟨_, h.1, h.2, by rw [own_sig o d ho]; rfl⟩)
    generalize a.eval = ρ at *
    clear hs' hd'
    go_simp
  · intro vals a w1 hb hs' hd'
    refine want (gd_some rfl (hd' 5 (by decide)).2) ?_
    have e34 : a.eval (.tmp 34) = _ := (hd' 9 (by decide)).1.trans (hd' 9 (by decide)).2
    simp only [bind4] at e34
    refine head_val (.bool false) ?_ (Below.refl _ _) rfl
    generalize a.eval = ρ at *
    clear hs' hd'
    go_simp
  · intro vals a w1 hb hs' hd'
    refine want rfl ?_
    have e30 : a.eval (.tmp 30) = _ := (hd' 5 (by decide)).1.trans (hd' 5 (by decide)).2
    simp only [bind4] at e30
    have e35 : a.eval (.tmp 35) = _ := (hd' 10 (by decide)).1.trans (hd' 10 (by decide)).2
    simp only [bind4] at e35
    have ec : a.eval (.const (.bool true)) = .bool true := rfl
    refine head_val (.bool false) ?_ (Below.refl _ _) rfl
    generalize a.eval = ρ at *
    clear hs' hd'
    go_simp
  intro vals W6 hb6 hall
  have h11 : vals 11 = .bool false := hall 11 (by omega)
  clear hall
  simp only [List.take_succ_cons, List.take_zero, List.drop_succ_cons, List.drop_zero, G.putHeads, List.zipIdx_cons, List.zipIdx_nil, List.foldl_cons, List.foldl_nil, Act.put, List.setIfInBounds_toArray, List.set_cons_zero, List.set_cons_succ, Nat.zero_add, Nat.reduceAdd, h11]
  have HQ6 := Lib.hid (HQ5.out.below hb6)
  have HRk1' := Lib.hid (block_below hb6 HRk1.out)
  have HRk2' := Lib.hid (block_below hb6 HRk2.out)
  have Hg1' := Lib.hid (Hg1.out.below hb6)
  have Hg2' := Lib.hid (Hg2.out.below hb6)
  have HB6 := Lib.hid (HB5.out.trans (hb6.mono HB5.out.size))
  clear hb6 Hs Ho Hd Hm Hk1 Hk2 Hg1 Hg2
  refine wpList_nil ?_
  go_wp2_with fail
  obtain ⟨hrs, hro, hrd, hrm⟩ := HQ6.out
  have Hs := Lib.hid hrs
  have Ho := Lib.hid hro
  have Hd := Lib.hid hrd
  have Hm := Lib.hid hrm
  clear hrs hro hrd hrm
  refine G.wp_region_mono 13 (by kernel_rfl) (by kernel_rfl) (bind6 B s o d m) (bind6_stable B s o d m) ⟨?_, ?_, ?_, ?_, ?_, ?_, ?_, ?_, ?_, ?_, ?_, ?_, ?_, trivial⟩ ?_
  · intro vals a w1 hb hs' hd'
    refine want rfl ?_
    have e4 : a.eval (.tmp 4) = Value.pointer (some ⟨B, 0, none⟩) := hs' 4 (by decide)
    refine head_val (.slice (some ⟨B, 0, none⟩) 32 32) ?_ (Below.refl _ _) rfl
    generalize a.eval = ρ at *
    clear hs' hd'
    go_simp
  · intro vals a w1 hb hs' hd'
    refine want rfl ?_
    have e5 : a.eval (.tmp 5) = Value.pointer (some ⟨(B + 1), 0, none⟩) := hs' 5 (by decide)
    refine head_val (.slice (some ⟨(B + 1), 0, none⟩) 32 32) ?_ (Below.refl _ _) rfl
    generalize a.eval = ρ at *
    clear hs' hd'
    go_simp
  · intro vals a w1 hb hs' hd'
    refine want rfl ?_
    have e4 : a.eval (.tmp 4) = Value.pointer (some ⟨B, 0, none⟩) := hs' 4 (by decide)
    have hl := run_loadVar_mid (P := Try.prog) w1 (B) (0) 28 (s.map V8) _ (row_range ((hb.block _ (Array.getElem?_eq_some_iff.1 Hs.out).1).trans Hs.out)) Try.underlying28 rfl HIS.out
    refine head_val (.agg (bytesA s)) ?_ (Below.refl _ _) rfl
    generalize a.eval = ρ at *
    clear hs' hd'
    simp only [execOp, e4, Instr.loadAt, Instr.sureAddr, Sem.run_bind, Sem.run_pure, Result.andThen_ok, hl]
    rfl
  · intro vals a w1 hb hs' hd'
    refine want rfl ?_
    have e6 : a.eval (.tmp 6) = Value.pointer (some ⟨B + 2, 0, none⟩) := hs' 6 (by decide)
    have hl := run_loadVar_mid (P := Try.prog) w1 (B + 2) (0) 28 (d.map V8) _ (row_range ((hb.block _ (Array.getElem?_eq_some_iff.1 Hd.out).1).trans Hd.out)) Try.underlying28 rfl HID.out
    refine head_val (.agg (bytesA d)) ?_ (Below.refl _ _) rfl
    generalize a.eval = ρ at *
    clear hs' hd'
    simp only [execOp, e6, Instr.loadAt, Instr.sureAddr, Sem.run_bind, Sem.run_pure, Result.andThen_ok, hl]
    rfl
  · intro vals a w1 hb hs' hd'
    refine want rfl ?_
    have e39 : a.eval (.tmp 39) = _ := (hd' 2 (by decide)).1.trans (hd' 2 (by decide)).2
    have e40 : a.eval (.tmp 40) = _ := (hd' 3 (by decide)).1.trans (hd' 3 (by decide)).2
    have ef : a.eval (.func 60) = .func (.func 60) #[] #[] := rfl
    refine head_call (f := 60) (args := #[.agg (bytesA s), .agg (bytesA d)]) ?_ ((behind_any s d hs hd w1).mono fun e w' h => by obtain ⟨v, h1, h2, a, c, h3, h4⟩ := h; exact ⟨_, h1, h2, a, c, h3, h4⟩)
    generalize a.eval = ρ at *
    clear hs' hd'
    go_simp
  · intro vals a w1 hb hs' hd'
    refine want rfl ?_
    have e4 : a.eval (.tmp 4) = Value.pointer (some ⟨B, 0, none⟩) := hs' 4 (by decide)
    have hl := run_loadVar_mid (P := Try.prog) w1 (B) (0) 28 (s.map V8) _ (row_range ((hb.block _ (Array.getElem?_eq_some_iff.1 Hs.out).1).trans Hs.out)) Try.underlying28 rfl HIS.out
    refine head_val (.agg (bytesA s)) ?_ (Below.refl _ _) rfl
    generalize a.eval = ρ at *
    clear hs' hd'
    simp only [execOp, e4, Instr.loadAt, Instr.sureAddr, Sem.run_bind, Sem.run_pure, Result.andThen_ok, hl]
    rfl
  · intro vals a w1 hb hs' hd'
    refine want rfl ?_
    have e7 : a.eval (.tmp 7) = Value.pointer (some ⟨B + 3, 0, none⟩) := hs' 7 (by decide)
    have hl := run_loadVar_mid (P := Try.prog) w1 (B + 3) (0) 28 (m.map V8) _ (row_range ((hb.block _ (Array.getElem?_eq_some_iff.1 Hm.out).1).trans Hm.out)) Try.underlying28 rfl HIM.out
    refine head_val (.agg (bytesA m)) ?_ (Below.refl _ _) rfl
    generalize a.eval = ρ at *
    clear hs' hd'
    simp only [execOp, e7, Instr.loadAt, Instr.sureAddr, Sem.run_bind, Sem.run_pure, Result.andThen_ok, hl]
    rfl
  · intro vals a w1 hb hs' hd'
    refine want rfl ?_
    have e42 : a.eval (.tmp 42) = _ := (hd' 5 (by decide)).1.trans (hd' 5 (by decide)).2
    have e43 : a.eval (.tmp 43) = _ := (hd' 6 (by decide)).1.trans (hd' 6 (by decide)).2
    have ef : a.eval (.func 60) = .func (.func 60) #[] #[] := rfl
    refine head_call (f := 60) (args := #[.agg (bytesA s), .agg (bytesA m)]) ?_ ((behind_any s m hs hm w1).mono fun e w' h => by obtain ⟨v, h1, h2, a, c, h3, h4⟩ := h; exact ⟨_, h1, h2, a, c, h3, h4⟩)
    generalize a.eval = ρ at *
    clear hs' hd'
    go_simp
  · intro vals a w1 hb hs' hd'
    refine want rfl ?_
    have e5 : a.eval (.tmp 5) = Value.pointer (some ⟨B + 1, 0, none⟩) := hs' 5 (by decide)
    have hl := run_loadVar_mid (P := Try.prog) w1 (B + 1) (0) 28 (o.map V8) _ (row_range ((hb.block _ (Array.getElem?_eq_some_iff.1 Ho.out).1).trans Ho.out)) Try.underlying28 rfl HIO.out
    refine head_val (.agg (bytesA o)) ?_ (Below.refl _ _) rfl
    generalize a.eval = ρ at *
    clear hs' hd'
    simp only [execOp, e5, Instr.loadAt, Instr.sureAddr, Sem.run_bind, Sem.run_pure, Result.andThen_ok, hl]
    rfl
  · intro vals a w1 hb hs' hd'
    refine want rfl ?_
    have e6 : a.eval (.tmp 6) = Value.pointer (some ⟨B + 2, 0, none⟩) := hs' 6 (by decide)
    have hl := run_loadVar_mid (P := Try.prog) w1 (B + 2) (0) 28 (d.map V8) _ (row_range ((hb.block _ (Array.getElem?_eq_some_iff.1 Hd.out).1).trans Hd.out)) Try.underlying28 rfl HID.out
    refine head_val (.agg (bytesA d)) ?_ (Below.refl _ _) rfl
    generalize a.eval = ρ at *
    clear hs' hd'
    simp only [execOp, e6, Instr.loadAt, Instr.sureAddr, Sem.run_bind, Sem.run_pure, Result.andThen_ok, hl]
    rfl
  · intro vals a w1 hb hs' hd'
    refine want rfl ?_
    have e45 : a.eval (.tmp 45) = _ := (hd' 8 (by decide)).1.trans (hd' 8 (by decide)).2
    have e46 : a.eval (.tmp 46) = _ := (hd' 9 (by decide)).1.trans (hd' 9 (by decide)).2
    have ef : a.eval (.func 60) = .func (.func 60) #[] #[] := rfl
    refine head_call (f := 60) (args := #[.agg (bytesA o), .agg (bytesA d)]) ?_ ((behind_any o d ho hd w1).mono fun e w' h => by obtain ⟨v, h1, h2, a, c, h3, h4⟩ := h; exact ⟨_, h1, h2, a, c, h3, h4⟩)
    generalize a.eval = ρ at *
    clear hs' hd'
    go_simp
  · intro vals a w1 hb hs' hd'
    refine want rfl ?_
    have e37 : a.eval (.tmp 37) = _ := (hd' 0 (by decide)).1.trans (hd' 0 (by decide)).2
    have e38 : a.eval (.tmp 38) = _ := (hd' 1 (by decide)).1.trans (hd' 1 (by decide)).2
    obtain ⟨a1, c1, v1, y1⟩ := (hd' 4 (by decide)).2
    obtain ⟨a2, c2, v2, y2⟩ := (hd' 7 (by decide)).2
    obtain ⟨a3, c3, v3, y3⟩ := (hd' 10 (by decide)).2
    have e41 : a.eval (.tmp 41) = .slice a1 64 c1 := (hd' 4 (by decide)).1.trans v1
    have e44 : a.eval (.tmp 44) = .slice a2 64 c2 := (hd' 7 (by decide)).1.trans v2
    have e47 : a.eval (.tmp 47) = .slice a3 64 c3 := (hd' 10 (by decide)).1.trans v3
    rw [v1] at y1
    rw [v2] at y2
    rw [v3] at y3
    have hal : Below w1.heap.size w1 (w1.alloc (.cells #[.slice (some ⟨B, 0, none⟩) 32 32, .slice (some ⟨B + 1, 0, none⟩) 32 32, .slice a1 64 c1, .slice a2 64 c2, .slice a3 64 c3] 25)) := (Below.refl _ _).alloc (Nat.le_refl _) _
    refine head_val (.slice (some ⟨w1.heap.size, 0, none⟩) 5 5) (w' := w1.alloc (.cells #[.slice (some ⟨B, 0, none⟩) 32 32, .slice (some ⟨B + 1, 0, none⟩) 32 32, .slice a1 64 c1, .slice a2 64 c2, .slice a3 64 c3] 25)) ?_ hal ⟨_, rfl, by simp, _, _, _, _, _, cell_of_row _ _ _ _ _ _ (heap_alloc_new _ _), cell_of_row _ _ _ _ _ _ (heap_alloc_new _ _), cell_of_row _ _ _ _ _ _ (heap_alloc_new _ _), cell_of_row _ _ _ _ _ _ (heap_alloc_new _ _), cell_of_row _ _ _ _ _ _ (heap_alloc_new _ _), (row32 ((hb.block _ (Array.getElem?_eq_some_iff.1 Hs.out).1).trans Hs.out) hs).below hal, (row32 ((hb.block _ (Array.getElem?_eq_some_iff.1 Ho.out).1).trans Ho.out) ho).below hal, y1.below hal, y2.below hal, y3.below hal⟩
    generalize a.eval = ρ at *
    clear hs' hd'
    go_simp
  · intro vals a w1 hb hs' hd'
    refine want rfl ?_
    obtain ⟨bm, em, hbm, u0, u1, u2, u3, u4, c0, c1, c2, c3, c4, y0, y1, y2, y3, y4⟩ := (hd' 11 (by decide)).2
    have e48 : a.eval (.tmp 48) = .slice (some ⟨bm, 0, none⟩) 5 5 := (hd' 11 (by decide)).1.trans em
    have ef : a.eval (.func 59) = .func (.func 59) #[] #[] := rfl
    refine head_call (f := 59) (args := #[.slice (some ⟨bm, 0, none⟩) 5 5]) ?_ ((meet_any bm 5 [s, o, s ++ d, s ++ m, o ++ d] w1 rfl (by omega) hbm (fun i hi => by
      have l1 : (s ++ d).length ≤ 549755813888 := by rw [List.length_append]; omega
      have l2 : (s ++ m).length ≤ 549755813888 := by rw [List.length_append]; omega
      have l3 : (o ++ d).length ≤ 549755813888 := by rw [List.length_append]; omega
      match i, hi with
      | 0, _ => exact ⟨_, c0, y0, by show s.length ≤ _; omega⟩
      | 1, _ => exact ⟨_, c1, y1, by show o.length ≤ _; omega⟩
      | 2, _ => exact ⟨_, c2, y2, l1⟩
      | 3, _ => exact ⟨_, c3, y3, l2⟩
      | 4, _ => exact ⟨_, c4, y4, l3⟩)).mono fun e w' h => by obtain ⟨r, h1, h2, h3⟩ := h; exact ⟨_, h1, h2, r, rfl, fun hr => ⟨h3 hr 1 0 (by omega) (by omega), h3 hr 3 2 (by omega) (by omega)⟩⟩)
    generalize a.eval = ρ at *
    clear hs' hd'
    go_simp
  intro vals W7 hb7 hall
  obtain ⟨r, h12, hr⟩ := hall 12 (by omega)
  clear hall
  simp only [List.take_succ_cons, List.take_zero, List.drop_succ_cons, List.drop_zero, G.putHeads, List.zipIdx_cons, List.zipIdx_nil, List.foldl_cons, List.foldl_nil, Act.put, List.setIfInBounds_toArray, List.set_cons_zero, List.set_cons_succ, Nat.zero_add, Nat.reduceAdd, h12]
  have HQ7 := Lib.hid (HQ6.out.below hb7)
  have HRk1 := Lib.hid (block_below hb7 HRk1'.out)
  have HRk2 := Lib.hid (block_below hb7 HRk2'.out)
  have Hg1 := Lib.hid (Hg1'.out.below hb7)
  have Hg2 := Lib.hid (Hg2'.out.below hb7)
  have HB7 := Lib.hid (HB6.out.trans (hb7.mono HB6.out.size))
  clear hb7 Hs Ho Hd Hm
  refine wpList_nil ?_
  cases r with
  | true =>
    go_wp2_with fail
    go_ret
    exact ⟨rfl, HB7.out⟩
  | false =>
    obtain ⟨hos, hmd⟩ := hr rfl
    have x1e : isB (Sha.hash s) (s ++ Sha.hash (s ++ d)) m = (m == d) := by
      rw [isB_mix s s (s ++ d) m hs, beq_self_eq_true, Bool.true_and, apart_eq _ _ hmd, Bool.eq_iff_iff, beq_iff_eq, beq_iff_eq]
      exact ⟨fun h => List.append_cancel_left h, fun h => by rw [h]⟩
    have x2e : isB (Sha.hash s) (o ++ Sha.hash (o ++ d)) d = (o == s) := by
      rw [isB_mix s o (o ++ d) d ho, beq_self_eq_true, Bool.and_true, apart_eq _ _ hos]
    have hso : (Sha.hash s == Sha.hash o) = (s == o) := by
      rw [Bool.beq_comm, apart_eq _ _ hos, Bool.beq_comm]
    have hcomm : (s == o) = (o == s) := Bool.beq_comm
    have x3e : isB (Sha.hash o) (s ++ Sha.hash (s ++ d)) d = (o == s) := by
      rw [isB_mix o s (s ++ d) d hs, beq_self_eq_true, Bool.and_true, hso, hcomm]
    have x4e := hso
    clear hos hmd hr hso hcomm
    go_wp2_with fail
    obtain ⟨hrs, hro, hrd, hrm⟩ := HQ7.out
    have Hs := Lib.hid hrs
    have Ho := Lib.hid hro
    have Hd := Lib.hid hrd
    have Hm := Lib.hid hrm
    clear hrs hro hrd hrm
    have Hk1 := Lib.hid (row32 HRk1.out (hash_length s))
    have Hk2 := Lib.hid (row32 HRk2.out (hash_length o))
    refine G.wp_region_mono 41 (by kernel_rfl) (by kernel_rfl) (fun i v _ => v = bind8 k1 k2 g1 g2 s o d m i) (fun _ _ _ _ h _ => h) ⟨?_, ?_, ?_, ?_, ?_, ?_, ?_, ?_, ?_, ?_, ?_, ?_, ?_, ?_, ?_, ?_, ?_, ?_, ?_, ?_, ?_, ?_, ?_, ?_, ?_, ?_, ?_, ?_, ?_, ?_, ?_, ?_, ?_, ?_, ?_, ?_, ?_, ?_, ?_, ?_, ?_, trivial⟩ ?_
    · intro vals a w1 hb hs' hd'
      refine want rfl ?_
      have e9 : a.eval (.tmp 9) = Value.bool true := hs' 9 (by decide)
      refine head_val (.bool true) ?_ (Below.refl _ _) rfl
      generalize a.eval = ρ at *
      clear hs' hd'
      go_simp
    · intro vals a w1 hb hs' hd'
      refine want rfl ?_
      have e51 : a.eval (.tmp 51) = _ := (hd' 0 (by decide)).1.trans (hd' 0 (by decide)).2
      simp only [bind8] at e51
      refine head_val (.bool true) ?_ (Below.refl _ _) rfl
      generalize a.eval = ρ at *
      clear hs' hd'
      go_simp
    · intro vals a w1 hb hs' hd'
      refine want (gd_some rfl (hd' 1 (by decide)).2) ?_
      have e10 : a.eval (.tmp 10) = Value.pointer (some ⟨k1, 0, none⟩) := hs' 10 (by decide)
      refine head_val (.slice (some ⟨k1, 0, none⟩) 32 32) ?_ (Below.refl _ _) rfl
      generalize a.eval = ρ at *
      clear hs' hd'
      go_simp
    · intro vals a w1 hb hs' hd'
      refine want (gd_some rfl (hd' 1 (by decide)).2) ?_
      have e12 : a.eval (.tmp 12) = Value.slice (some ⟨g1, 0, none⟩) 64 64 := hs' 12 (by decide)
      refine head_val (.slice (some ⟨g1, 0, none⟩) 64 64) ?_ (Below.refl _ _) rfl
      generalize a.eval = ρ at *
      clear hs' hd'
      go_simp
    · intro vals a w1 hb hs' hd'
      refine want (gd_some rfl (hd' 1 (by decide)).2) ?_
      have e7 : a.eval (.tmp 7) = Value.pointer (some ⟨B + 3, 0, none⟩) := hs' 7 (by decide)
      have hl := run_loadVar_mid (P := Try.prog) w1 (B + 3) (0) 28 (m.map V8) _ (row_range ((hb.block _ (Array.getElem?_eq_some_iff.1 Hm.out).1).trans Hm.out)) Try.underlying28 rfl HIM.out
      refine head_val (.agg (bytesA m)) ?_ (Below.refl _ _) rfl
      generalize a.eval = ρ at *
      clear hs' hd'
      simp only [execOp, e7, Instr.loadAt, Instr.sureAddr, Sem.run_bind, Sem.run_pure, Result.andThen_ok, hl]
      rfl
    · intro vals a w1 hb hs' hd'
      refine want (gd_some rfl (hd' 1 (by decide)).2) ?_
      have e53 : a.eval (.tmp 53) = _ := (hd' 2 (by decide)).1.trans (hd' 2 (by decide)).2
      simp only [bind8] at e53
      have e54 : a.eval (.tmp 54) = _ := (hd' 3 (by decide)).1.trans (hd' 3 (by decide)).2
      simp only [bind8] at e54
      have e55 : a.eval (.tmp 55) = _ := (hd' 4 (by decide)).1.trans (hd' 4 (by decide)).2
      simp only [bind8] at e55
      have ef : a.eval (.func 44) = .func (.func 44) #[] #[] := rfl
      refine head_call (f := 44) (args := #[.slice (some ⟨k1, 0, none⟩) 32 32, .slice (some ⟨g1, 0, none⟩) 64 64, .agg (bytesA m)]) ?_ ((is_any _ _ (Sha.hash s) (s ++ Sha.hash (s ++ d)) m hm w1 (Hk1.out.below hb) (Hg1.out.below hb)).mono fun e w' h => ⟨_, h.1, h.2, by rw [x1e]; rfl⟩)
      generalize a.eval = ρ at *
      clear hs' hd'
      go_simp
    · intro vals a w1 hb hs' hd'
      refine want (gd_some rfl (hd' 1 (by decide)).2) ?_
      have e7 : a.eval (.tmp 7) = Value.pointer (some ⟨B + 3, 0, none⟩) := hs' 7 (by decide)
      have hl := run_loadVar_mid (P := Try.prog) w1 (B + 3) (0) 28 (m.map V8) _ (row_range ((hb.block _ (Array.getElem?_eq_some_iff.1 Hm.out).1).trans Hm.out)) Try.underlying28 rfl HIM.out
      refine head_val (.agg (bytesA m)) ?_ (Below.refl _ _) rfl
      generalize a.eval = ρ at *
      clear hs' hd'
      simp only [execOp, e7, Instr.loadAt, Instr.sureAddr, Sem.run_bind, Sem.run_pure, Result.andThen_ok, hl]
      rfl
    · intro vals a w1 hb hs' hd'
      refine want (gd_some rfl (hd' 1 (by decide)).2) ?_
      have e6 : a.eval (.tmp 6) = Value.pointer (some ⟨B + 2, 0, none⟩) := hs' 6 (by decide)
      have hl := run_loadVar_mid (P := Try.prog) w1 (B + 2) (0) 28 (d.map V8) _ (row_range ((hb.block _ (Array.getElem?_eq_some_iff.1 Hd.out).1).trans Hd.out)) Try.underlying28 rfl HID.out
      refine head_val (.agg (bytesA d)) ?_ (Below.refl _ _) rfl
      generalize a.eval = ρ at *
      clear hs' hd'
      simp only [execOp, e6, Instr.loadAt, Instr.sureAddr, Sem.run_bind, Sem.run_pure, Result.andThen_ok, hl]
      rfl
    · intro vals a w1 hb hs' hd'
      refine want (gd_some rfl (hd' 1 (by decide)).2) ?_
      have e57 : a.eval (.tmp 57) = _ := (hd' 6 (by decide)).1.trans (hd' 6 (by decide)).2
      simp only [bind8] at e57
      have e58 : a.eval (.tmp 58) = _ := (hd' 7 (by decide)).1.trans (hd' 7 (by decide)).2
      simp only [bind8] at e58
      have eqq := eqlB m d w1 (by first | assumption | exact hash_length _) (by first | assumption | exact hash_length _)
      refine head_val (.bool (m == d)) ?_ (Below.refl _ _) rfl
      generalize a.eval = ρ at *
      clear hs' hd'
      simp only [execOp, e57, e58, Sem.run_bind, eg28, eqq, Result.andThen_ok]
      rfl
    · intro vals a w1 hb hs' hd'
      refine want (gd_some rfl (hd' 1 (by decide)).2) ?_
      have e56 : a.eval (.tmp 56) = _ := (hd' 5 (by decide)).1.trans (hd' 5 (by decide)).2
      simp only [bind8] at e56
      have e59 : a.eval (.tmp 59) = _ := (hd' 8 (by decide)).1.trans (hd' 8 (by decide)).2
      simp only [bind8] at e59
      refine head_val (.bool true) ?_ (Below.refl _ _) rfl
      generalize a.eval = ρ at *
      clear hs' hd'
      go_simp
    · intro vals a w1 hb hs' hd'
      refine want rfl ?_
      have e52 : a.eval (.tmp 52) = _ := (hd' 1 (by decide)).1.trans (hd' 1 (by decide)).2
      simp only [bind8] at e52
      have e60 : a.eval (.tmp 60) = _ := (hd' 9 (by decide)).1.trans (hd' 9 (by decide)).2
      simp only [bind8] at e60
      have ec : a.eval (.const (.bool false)) = .bool false := rfl
      refine head_val (.bool true) ?_ (Below.refl _ _) rfl
      generalize a.eval = ρ at *
      clear hs' hd'
      go_simp
    · intro vals a w1 hb hs' hd'
      refine want rfl ?_
      have e61 : a.eval (.tmp 61) = _ := (hd' 10 (by decide)).1.trans (hd' 10 (by decide)).2
      simp only [bind8] at e61
      refine head_val (.bool true) ?_ (Below.refl _ _) rfl
      generalize a.eval = ρ at *
      clear hs' hd'
      go_simp
    · intro vals a w1 hb hs' hd'
      refine want (gd_some rfl (hd' 11 (by decide)).2) ?_
      have e10 : a.eval (.tmp 10) = Value.pointer (some ⟨k1, 0, none⟩) := hs' 10 (by decide)
      refine head_val (.slice (some ⟨k1, 0, none⟩) 32 32) ?_ (Below.refl _ _) rfl
      generalize a.eval = ρ at *
      clear hs' hd'
      go_simp
    · intro vals a w1 hb hs' hd'
      refine want (gd_some rfl (hd' 11 (by decide)).2) ?_
      have e13 : a.eval (.tmp 13) = Value.slice (some ⟨g2, 0, none⟩) 64 64 := hs' 13 (by decide)
      refine head_val (.slice (some ⟨g2, 0, none⟩) 64 64) ?_ (Below.refl _ _) rfl
      generalize a.eval = ρ at *
      clear hs' hd'
      go_simp
    · intro vals a w1 hb hs' hd'
      refine want (gd_some rfl (hd' 11 (by decide)).2) ?_
      have e6 : a.eval (.tmp 6) = Value.pointer (some ⟨B + 2, 0, none⟩) := hs' 6 (by decide)
      have hl := run_loadVar_mid (P := Try.prog) w1 (B + 2) (0) 28 (d.map V8) _ (row_range ((hb.block _ (Array.getElem?_eq_some_iff.1 Hd.out).1).trans Hd.out)) Try.underlying28 rfl HID.out
      refine head_val (.agg (bytesA d)) ?_ (Below.refl _ _) rfl
      generalize a.eval = ρ at *
      clear hs' hd'
      simp only [execOp, e6, Instr.loadAt, Instr.sureAddr, Sem.run_bind, Sem.run_pure, Result.andThen_ok, hl]
      rfl
    · intro vals a w1 hb hs' hd'
      refine want (gd_some rfl (hd' 11 (by decide)).2) ?_
      have e63 : a.eval (.tmp 63) = _ := (hd' 12 (by decide)).1.trans (hd' 12 (by decide)).2
      simp only [bind8] at e63
      have e64 : a.eval (.tmp 64) = _ := (hd' 13 (by decide)).1.trans (hd' 13 (by decide)).2
      simp only [bind8] at e64
      have e65 : a.eval (.tmp 65) = _ := (hd' 14 (by decide)).1.trans (hd' 14 (by decide)).2
      simp only [bind8] at e65
      have ef : a.eval (.func 44) = .func (.func 44) #[] #[] := rfl
      refine head_call (f := 44) (args := #[.slice (some ⟨k1, 0, none⟩) 32 32, .slice (some ⟨g2, 0, none⟩) 64 64, .agg (bytesA d)]) ?_ ((is_any _ _ (Sha.hash s) (o ++ Sha.hash (o ++ d)) d hd w1 (Hk1.out.below hb) (Hg2.out.below hb)).mono fun e w' h => ⟨_, h.1, h.2, by rw [x2e]; rfl⟩)
      generalize a.eval = ρ at *
      clear hs' hd'
      go_simp
    · intro vals a w1 hb hs' hd'
      refine want (gd_some rfl (hd' 11 (by decide)).2) ?_
      have e5 : a.eval (.tmp 5) = Value.pointer (some ⟨B + 1, 0, none⟩) := hs' 5 (by decide)
      have hl := run_loadVar_mid (P := Try.prog) w1 (B + 1) (0) 28 (o.map V8) _ (row_range ((hb.block _ (Array.getElem?_eq_some_iff.1 Ho.out).1).trans Ho.out)) Try.underlying28 rfl HIO.out
      refine head_val (.agg (bytesA o)) ?_ (Below.refl _ _) rfl
      generalize a.eval = ρ at *
      clear hs' hd'
      simp only [execOp, e5, Instr.loadAt, Instr.sureAddr, Sem.run_bind, Sem.run_pure, Result.andThen_ok, hl]
      rfl
    · intro vals a w1 hb hs' hd'
      refine want (gd_some rfl (hd' 11 (by decide)).2) ?_
      have e4 : a.eval (.tmp 4) = Value.pointer (some ⟨B, 0, none⟩) := hs' 4 (by decide)
      have hl := run_loadVar_mid (P := Try.prog) w1 (B) (0) 28 (s.map V8) _ (row_range ((hb.block _ (Array.getElem?_eq_some_iff.1 Hs.out).1).trans Hs.out)) Try.underlying28 rfl HIS.out
      refine head_val (.agg (bytesA s)) ?_ (Below.refl _ _) rfl
      generalize a.eval = ρ at *
      clear hs' hd'
      simp only [execOp, e4, Instr.loadAt, Instr.sureAddr, Sem.run_bind, Sem.run_pure, Result.andThen_ok, hl]
      rfl
    · intro vals a w1 hb hs' hd'
      refine want (gd_some rfl (hd' 11 (by decide)).2) ?_
      have e67 : a.eval (.tmp 67) = _ := (hd' 16 (by decide)).1.trans (hd' 16 (by decide)).2
      simp only [bind8] at e67
      have e68 : a.eval (.tmp 68) = _ := (hd' 17 (by decide)).1.trans (hd' 17 (by decide)).2
      simp only [bind8] at e68
      have eqq := eqlB o s w1 (by first | assumption | exact hash_length _) (by first | assumption | exact hash_length _)
      refine head_val (.bool (o == s)) ?_ (Below.refl _ _) rfl
      generalize a.eval = ρ at *
      clear hs' hd'
      simp only [execOp, e67, e68, Sem.run_bind, eg28, eqq, Result.andThen_ok]
      rfl
    · intro vals a w1 hb hs' hd'
      refine want (gd_some rfl (hd' 11 (by decide)).2) ?_
      have e66 : a.eval (.tmp 66) = _ := (hd' 15 (by decide)).1.trans (hd' 15 (by decide)).2
      simp only [bind8] at e66
      have e69 : a.eval (.tmp 69) = _ := (hd' 18 (by decide)).1.trans (hd' 18 (by decide)).2
      simp only [bind8] at e69
      refine head_val (.bool true) ?_ (Below.refl _ _) rfl
      generalize a.eval = ρ at *
      clear hs' hd'
      go_simp
    · intro vals a w1 hb hs' hd'
      refine want rfl ?_
      have e62 : a.eval (.tmp 62) = _ := (hd' 11 (by decide)).1.trans (hd' 11 (by decide)).2
      simp only [bind8] at e62
      have e70 : a.eval (.tmp 70) = _ := (hd' 19 (by decide)).1.trans (hd' 19 (by decide)).2
      simp only [bind8] at e70
      have ec : a.eval (.const (.bool false)) = .bool false := rfl
      refine head_val (.bool true) ?_ (Below.refl _ _) rfl
      generalize a.eval = ρ at *
      clear hs' hd'
      go_simp
    · intro vals a w1 hb hs' hd'
      refine want rfl ?_
      have e71 : a.eval (.tmp 71) = _ := (hd' 20 (by decide)).1.trans (hd' 20 (by decide)).2
      simp only [bind8] at e71
      refine head_val (.bool true) ?_ (Below.refl _ _) rfl
      generalize a.eval = ρ at *
      clear hs' hd'
      go_simp
    · intro vals a w1 hb hs' hd'
      refine want (gd_some rfl (hd' 21 (by decide)).2) ?_
      have e11 : a.eval (.tmp 11) = Value.pointer (some ⟨k2, 0, none⟩) := hs' 11 (by decide)
      refine head_val (.slice (some ⟨k2, 0, none⟩) 32 32) ?_ (Below.refl _ _) rfl
      generalize a.eval = ρ at *
      clear hs' hd'
      go_simp
    · intro vals a w1 hb hs' hd'
      refine want (gd_some rfl (hd' 21 (by decide)).2) ?_
      have e12 : a.eval (.tmp 12) = Value.slice (some ⟨g1, 0, none⟩) 64 64 := hs' 12 (by decide)
      refine head_val (.slice (some ⟨g1, 0, none⟩) 64 64) ?_ (Below.refl _ _) rfl
      generalize a.eval = ρ at *
      clear hs' hd'
      go_simp
    · intro vals a w1 hb hs' hd'
      refine want (gd_some rfl (hd' 21 (by decide)).2) ?_
      have e6 : a.eval (.tmp 6) = Value.pointer (some ⟨B + 2, 0, none⟩) := hs' 6 (by decide)
      have hl := run_loadVar_mid (P := Try.prog) w1 (B + 2) (0) 28 (d.map V8) _ (row_range ((hb.block _ (Array.getElem?_eq_some_iff.1 Hd.out).1).trans Hd.out)) Try.underlying28 rfl HID.out
      refine head_val (.agg (bytesA d)) ?_ (Below.refl _ _) rfl
      generalize a.eval = ρ at *
      clear hs' hd'
      simp only [execOp, e6, Instr.loadAt, Instr.sureAddr, Sem.run_bind, Sem.run_pure, Result.andThen_ok, hl]
      rfl
    · intro vals a w1 hb hs' hd'
      refine want (gd_some rfl (hd' 21 (by decide)).2) ?_
      have e73 : a.eval (.tmp 73) = _ := (hd' 22 (by decide)).1.trans (hd' 22 (by decide)).2
      simp only [bind8] at e73
      have e74 : a.eval (.tmp 74) = _ := (hd' 23 (by decide)).1.trans (hd' 23 (by decide)).2
      simp only [bind8] at e74
      have e75 : a.eval (.tmp 75) = _ := (hd' 24 (by decide)).1.trans (hd' 24 (by decide)).2
      simp only [bind8] at e75
      have ef : a.eval (.func 44) = .func (.func 44) #[] #[] := rfl
      refine head_call (f := 44) (args := #[.slice (some ⟨k2, 0, none⟩) 32 32, .slice (some ⟨g1, 0, none⟩) 64 64, .agg (bytesA d)]) ?_ ((is_any _ _ (Sha.hash o) (s ++ Sha.hash (s ++ d)) d hd w1 (Hk2.out.below hb) (Hg1.out.below hb)).mono fun e w' h => ⟨_, h.1, h.2, by rw [x3e]; rfl⟩)
      generalize a.eval = ρ at *
      clear hs' hd'
      go_simp
    · intro vals a w1 hb hs' hd'
      refine want (gd_some rfl (hd' 21 (by decide)).2) ?_
      have e5 : a.eval (.tmp 5) = Value.pointer (some ⟨B + 1, 0, none⟩) := hs' 5 (by decide)
      have hl := run_loadVar_mid (P := Try.prog) w1 (B + 1) (0) 28 (o.map V8) _ (row_range ((hb.block _ (Array.getElem?_eq_some_iff.1 Ho.out).1).trans Ho.out)) Try.underlying28 rfl HIO.out
      refine head_val (.agg (bytesA o)) ?_ (Below.refl _ _) rfl
      generalize a.eval = ρ at *
      clear hs' hd'
      simp only [execOp, e5, Instr.loadAt, Instr.sureAddr, Sem.run_bind, Sem.run_pure, Result.andThen_ok, hl]
      rfl
    · intro vals a w1 hb hs' hd'
      refine want (gd_some rfl (hd' 21 (by decide)).2) ?_
      have e4 : a.eval (.tmp 4) = Value.pointer (some ⟨B, 0, none⟩) := hs' 4 (by decide)
      have hl := run_loadVar_mid (P := Try.prog) w1 (B) (0) 28 (s.map V8) _ (row_range ((hb.block _ (Array.getElem?_eq_some_iff.1 Hs.out).1).trans Hs.out)) Try.underlying28 rfl HIS.out
      refine head_val (.agg (bytesA s)) ?_ (Below.refl _ _) rfl
      generalize a.eval = ρ at *
      clear hs' hd'
      simp only [execOp, e4, Instr.loadAt, Instr.sureAddr, Sem.run_bind, Sem.run_pure, Result.andThen_ok, hl]
      rfl
    · intro vals a w1 hb hs' hd'
      refine want (gd_some rfl (hd' 21 (by decide)).2) ?_
      have e77 : a.eval (.tmp 77) = _ := (hd' 26 (by decide)).1.trans (hd' 26 (by decide)).2
      simp only [bind8] at e77
      have e78 : a.eval (.tmp 78) = _ := (hd' 27 (by decide)).1.trans (hd' 27 (by decide)).2
      simp only [bind8] at e78
      have eqq := eqlB o s w1 (by first | assumption | exact hash_length _) (by first | assumption | exact hash_length _)
      refine head_val (.bool (o == s)) ?_ (Below.refl _ _) rfl
      generalize a.eval = ρ at *
      clear hs' hd'
      simp only [execOp, e77, e78, Sem.run_bind, eg28, eqq, Result.andThen_ok]
      rfl
    · intro vals a w1 hb hs' hd'
      refine want (gd_some rfl (hd' 21 (by decide)).2) ?_
      have e76 : a.eval (.tmp 76) = _ := (hd' 25 (by decide)).1.trans (hd' 25 (by decide)).2
      simp only [bind8] at e76
      have e79 : a.eval (.tmp 79) = _ := (hd' 28 (by decide)).1.trans (hd' 28 (by decide)).2
      simp only [bind8] at e79
      refine head_val (.bool true) ?_ (Below.refl _ _) rfl
      generalize a.eval = ρ at *
      clear hs' hd'
      go_simp
    · intro vals a w1 hb hs' hd'
      refine want rfl ?_
      have e72 : a.eval (.tmp 72) = _ := (hd' 21 (by decide)).1.trans (hd' 21 (by decide)).2
      simp only [bind8] at e72
      have e80 : a.eval (.tmp 80) = _ := (hd' 29 (by decide)).1.trans (hd' 29 (by decide)).2
      simp only [bind8] at e80
      have ec : a.eval (.const (.bool false)) = .bool false := rfl
      refine head_val (.bool true) ?_ (Below.refl _ _) rfl
      generalize a.eval = ρ at *
      clear hs' hd'
      go_simp
    · intro vals a w1 hb hs' hd'
      refine want rfl ?_
      have e81 : a.eval (.tmp 81) = _ := (hd' 30 (by decide)).1.trans (hd' 30 (by decide)).2
      simp only [bind8] at e81
      refine head_val (.bool true) ?_ (Below.refl _ _) rfl
      generalize a.eval = ρ at *
      clear hs' hd'
      go_simp
    · intro vals a w1 hb hs' hd'
      refine want (gd_some rfl (hd' 31 (by decide)).2) ?_
      have e10 : a.eval (.tmp 10) = Value.pointer (some ⟨k1, 0, none⟩) := hs' 10 (by decide)
      have hl := run_loadVar_mid (P := Try.prog) w1 (k1) (0) 28 ((Sha.hash s).map V8) _ (row_range ((hb.block _ (Array.getElem?_eq_some_iff.1 HRk1.out).1).trans HRk1.out)) Try.underlying28 rfl HHk1.out
      refine head_val (.agg (bytesA (Sha.hash s))) ?_ (Below.refl _ _) rfl
      generalize a.eval = ρ at *
      clear hs' hd'
      simp only [execOp, e10, Instr.loadAt, Instr.sureAddr, Sem.run_bind, Sem.run_pure, Result.andThen_ok, hl]
      rfl
    · intro vals a w1 hb hs' hd'
      refine want (gd_some rfl (hd' 31 (by decide)).2) ?_
      have e11 : a.eval (.tmp 11) = Value.pointer (some ⟨k2, 0, none⟩) := hs' 11 (by decide)
      have hl := run_loadVar_mid (P := Try.prog) w1 (k2) (0) 28 ((Sha.hash o).map V8) _ (row_range ((hb.block _ (Array.getElem?_eq_some_iff.1 HRk2.out).1).trans HRk2.out)) Try.underlying28 rfl HHk2.out
      refine head_val (.agg (bytesA (Sha.hash o))) ?_ (Below.refl _ _) rfl
      generalize a.eval = ρ at *
      clear hs' hd'
      simp only [execOp, e11, Instr.loadAt, Instr.sureAddr, Sem.run_bind, Sem.run_pure, Result.andThen_ok, hl]
      rfl
    · intro vals a w1 hb hs' hd'
      refine want (gd_some rfl (hd' 31 (by decide)).2) ?_
      have e83 : a.eval (.tmp 83) = _ := (hd' 32 (by decide)).1.trans (hd' 32 (by decide)).2
      simp only [bind8] at e83
      have e84 : a.eval (.tmp 84) = _ := (hd' 33 (by decide)).1.trans (hd' 33 (by decide)).2
      simp only [bind8] at e84
      have eqq := eqlB (Sha.hash s) (Sha.hash o) w1 (by first | assumption | exact hash_length _) (by first | assumption | exact hash_length _)
      refine head_val (.bool (Sha.hash s == Sha.hash o)) ?_ (Below.refl _ _) rfl
      generalize a.eval = ρ at *
      clear hs' hd'
      simp only [execOp, e83, e84, Sem.run_bind, eg28, eqq, Result.andThen_ok]
      rfl
    · intro vals a w1 hb hs' hd'
      refine want (gd_some rfl (hd' 31 (by decide)).2) ?_
      have e4 : a.eval (.tmp 4) = Value.pointer (some ⟨B, 0, none⟩) := hs' 4 (by decide)
      have hl := run_loadVar_mid (P := Try.prog) w1 (B) (0) 28 (s.map V8) _ (row_range ((hb.block _ (Array.getElem?_eq_some_iff.1 Hs.out).1).trans Hs.out)) Try.underlying28 rfl HIS.out
      refine head_val (.agg (bytesA s)) ?_ (Below.refl _ _) rfl
      generalize a.eval = ρ at *
      clear hs' hd'
      simp only [execOp, e4, Instr.loadAt, Instr.sureAddr, Sem.run_bind, Sem.run_pure, Result.andThen_ok, hl]
      rfl
    · intro vals a w1 hb hs' hd'
      refine want (gd_some rfl (hd' 31 (by decide)).2) ?_
      have e5 : a.eval (.tmp 5) = Value.pointer (some ⟨B + 1, 0, none⟩) := hs' 5 (by decide)
      have hl := run_loadVar_mid (P := Try.prog) w1 (B + 1) (0) 28 (o.map V8) _ (row_range ((hb.block _ (Array.getElem?_eq_some_iff.1 Ho.out).1).trans Ho.out)) Try.underlying28 rfl HIO.out
      refine head_val (.agg (bytesA o)) ?_ (Below.refl _ _) rfl
      generalize a.eval = ρ at *
      clear hs' hd'
      simp only [execOp, e5, Instr.loadAt, Instr.sureAddr, Sem.run_bind, Sem.run_pure, Result.andThen_ok, hl]
      rfl
    · intro vals a w1 hb hs' hd'
      refine want (gd_some rfl (hd' 31 (by decide)).2) ?_
      have e86 : a.eval (.tmp 86) = _ := (hd' 35 (by decide)).1.trans (hd' 35 (by decide)).2
      simp only [bind8] at e86
      have e87 : a.eval (.tmp 87) = _ := (hd' 36 (by decide)).1.trans (hd' 36 (by decide)).2
      simp only [bind8] at e87
      have eqq := eqlB s o w1 (by first | assumption | exact hash_length _) (by first | assumption | exact hash_length _)
      refine head_val (.bool (s == o)) ?_ (Below.refl _ _) rfl
      generalize a.eval = ρ at *
      clear hs' hd'
      simp only [execOp, e86, e87, Sem.run_bind, eg28, eqq, Result.andThen_ok]
      rfl
    · intro vals a w1 hb hs' hd'
      refine want (gd_some rfl (hd' 31 (by decide)).2) ?_
      have e85 : a.eval (.tmp 85) = _ := (hd' 34 (by decide)).1.trans (hd' 34 (by decide)).2
      simp only [bind8] at e85
      have e88 : a.eval (.tmp 88) = _ := (hd' 37 (by decide)).1.trans (hd' 37 (by decide)).2
      simp only [bind8] at e88
      rw [x4e] at e85
      refine head_val (.bool true) ?_ (Below.refl _ _) rfl
      generalize a.eval = ρ at *
      clear hs' hd'
      go_simp
    · intro vals a w1 hb hs' hd'
      refine want rfl ?_
      have e82 : a.eval (.tmp 82) = _ := (hd' 31 (by decide)).1.trans (hd' 31 (by decide)).2
      simp only [bind8] at e82
      have e89 : a.eval (.tmp 89) = _ := (hd' 38 (by decide)).1.trans (hd' 38 (by decide)).2
      simp only [bind8] at e89
      have ec : a.eval (.const (.bool false)) = .bool false := rfl
      refine head_val (.bool true) ?_ (Below.refl _ _) rfl
      generalize a.eval = ρ at *
      clear hs' hd'
      go_simp
    · intro vals a w1 hb hs' hd'
      refine want rfl ?_
      have e90 : a.eval (.tmp 90) = _ := (hd' 39 (by decide)).1.trans (hd' 39 (by decide)).2
      simp only [bind8] at e90
      refine head_val (.bool true) ?_ (Below.refl _ _) rfl
      generalize a.eval = ρ at *
      clear hs' hd'
      go_simp
    intro vals W8 hb8 hall
    have h40 : vals 40 = .bool true := hall 40 (by omega)
    have HB8 := Lib.hid (HB7.out.trans (hb8.mono HB7.out.size))
    clear hall hb8
    simp only [List.take_succ_cons, List.take_zero, List.drop_succ_cons, List.drop_zero, G.putHeads, List.zipIdx_cons, List.zipIdx_nil, List.foldl_cons, List.foldl_nil, Act.put, List.setIfInBounds_toArray, List.set_cons_zero, List.set_cons_succ, Nat.zero_add, Nat.reduceAdd, h40]
    refine wpList_nil ?_
    go_wp2_with fail
    go_ret
    exact ⟨rfl, HB8.out⟩
end Go.Proofs.Ytdecbimklomdjaa
