/- A pool's each: its iterator, for whatever rounds; A pool's find, for whatever function; A pool's at, Has. -/
import Derived.Test.YtdecbimklomdjaaOut
import Derived.Test.YtdecbimklomdjaaWrite
import Derived.Sort.CutIn
import Derived.Test.YtdecbimklomdjaaIs
namespace Go.Proofs.Ytdecbimklomdjaa
open Go Go.RowKit Go.Shelf
attribute [local go_sem] Oper.semAt_some
theorem wpListIn_one {F : Fence} {n : Nat} {P : Program} {ops : Array Oper} {rest : List Oper} {o : Oper} {a : Act} {w w' : World} {Q : Exit → Act → World → Prop} (hF : ∀ f, F.fn f) (hgd : o.guard = none) (hd : ∀ c, o.op ≠ .defer c) {v : Value} (h : (execOp a.eval o).run P w = .ok (.value v) w')
    (hK : wpListIn F n P ops Q rest (a.put o.dst v) w') : wpListIn F n P ops Q (o :: rest) a w :=
  wpListIn_plain hgd fun K hK' => ⟨fun f _ => hF f, by rw [Oper.semAt_plain _ _ _ hd, h]; exact hK' _ _ hK⟩
theorem move_run' {P : Program} {o : Oper} {ρ : Operand → Value} {w : World} {x : Operand} {v : Value} (ho : o.op = .assign x) (hx : ρ x = v) : (execOp ρ o).run P w = .ok (.value v) w := by
  unfold execOp
  simp only [ho, hx, Sem.run_pure]
set_option maxRecDepth 100000 in
theorem each_any (x : Option Addr) (w : World) : Calls Try.prog 94 #[.pointer x] w fun e w' => e = .returned (.func (.func 123) #[] #[.pointer (some ⟨w.heap.size, 0, none⟩)]) ∧ w' = w.alloc (.cells #[.pointer x] 44) := by
  go_enter Try.func94, Try.ntmps94
  go_wp2
  go_ret
  exact ⟨rfl, rfl⟩
set_option maxRecDepth 100000 in
set_option maxHeartbeats 1000000 in
theorem each1_in (L Be p c : Nat) (v : Value) (most : Nat) (l : List (List UInt8 × Nat)) (I : Nat → World → Prop) (Iend : World → Prop)
    (hP : ∀ k W, I k W → PoolAt W p c v most l ∧ W.cell? ⟨Be, 0, none⟩ = some (.pointer (some ⟨p, 0, none⟩)))
    (hA : ∀ k W o, I k W → I k (W.alloc o))
    (hY : ∀ k W prev n, l[k]? = some (prev, n) → I k W → YieldAt Fence.wide 0 Try.prog L #[.int .i64 (k : Int), .agg (oneL (hh prev n) prev n).toArray] W fun e W' => (e = .returned (.bool true) ∧ I (k + 1) W') ∨ (e = .returned (.bool false) ∧ Iend W'))
    (hN : ∀ W, I l.length W → Iend W) (W : World) (h0 : I 0 W) :
    CallsIn Fence.wide 0 Try.prog 123 #[.func (.yield L) #[] #[], .pointer (some ⟨Be, 0, none⟩)] W fun e W' => (∃ v, e = .returned v) ∧ Iend W' := by
  obtain ⟨hp0, hb0⟩ := hP 0 W h0
  obtain ⟨_, hcv⟩ := hp0.cells
  obtain ⟨va, vc, rfl⟩ := own_slice hp0.own
  have HL : l.length ≤ 50 := Nat.le_trans hp0.fits hp0.most
  clear hp0
  refine callsIn_of_wp Try.func123 rfl trivial ?_
  simp only [Try.ntmps123, List.size_toArray, List.length_cons, List.length_nil, Nat.reduceAdd, Nat.reduceSub, Array.replicate_succ, Array.replicate_zero, List.push_toArray, List.append_toArray, List.nil_append, List.cons_append]
  gi_wp2
  gi_loopw [3, 10, 12] (fun _ i _ wr => ∃ k : Nat, k ≤ l.length ∧ i = .int .i64 (k : Int) ∧ I k wr) (fun _ i _ _ => l.length - (intOf i).toNat)
  case atStart => exact ⟨0, by omega, rfl, h0⟩
  case round =>
    obtain ⟨k, hk, rfl, hIk⟩ := hrel
    by_cases hlt : k < l.length
    · obtain ⟨⟨prev, n⟩, hi⟩ : ∃ b, l[k]? = some b := ⟨l[k], List.getElem?_eq_getElem hlt⟩
      obtain ⟨g, cap, hv, hgw, _, _, hrange⟩ := (hP k wr hIk).1.at hi
      obtain ⟨_, _, _, hpl, _⟩ := items_split (l := l) (hP k wr hIk).1.lens hi
      have hva : va = some ⟨g, 0, none⟩ := by injection hv
      subst hva
      obtain ⟨A, hA1⟩ : ∃ A, A = (oneL (hh prev n) prev n).toArray := ⟨_, rfl⟩
      obtain ⟨W1, hW1⟩ : ∃ W1, W1 = wr.alloc (.cells A 139) := ⟨_, rfl⟩
      obtain ⟨q, hq⟩ : ∃ q, q = wr.heap.size := ⟨_, rfl⟩
      have hrow : W1.heap[q]? = some (.cells A 139 (0, 0)) := by rw [hW1, hq]; exact heap_alloc_new _ _
      have hld2 : (loadVar 139 ⟨q, 0, none⟩).run Try.prog W1 = .ok (.agg A) W1 := by
        rw [hA1] at hrow ⊢
        exact one_load (one_row hrow) hpl
      have hI1 : I k W1 := hW1 ▸ hA k wr _ hIk
      have hld := one_load hrange hpl
      have hst := one_store (n := n) (heap_alloc_new wr (.cells Try.zeroCells139 139)) (by kernel_rfl) hpl
      rw [World.setRow_alloc_new, ← hA1, ← hW1] at hst
      rw [← hA1] at hld
      obtain ⟨fn, tmps, assign, body, hy, hR⟩ := hY k W1 prev n hi hI1
      rw [← hA1] at hy
      have HLD := Lib.hid hld
      have HLD2 := Lib.hid hld2
      have HST := Lib.hid hst
      have HR := Lib.hid hR
      have HY := Lib.hid hy
      have HN := Lib.hid hN
      clear hIk hA1 hrange hv hP hA hY hld hld2 hst hrow hI1 hW1 h0 hb0 hcv hR hy hN
      gi_upto_region 2 with (fail)
      refine wpIn_wide.2 (wp_region_lit ?_)
      refine wpList_one (w' := wr) rfl (move_run (x := .tmp 10) rfl rfl) ?_
      try (conv => lhs; change (Act.mk #[_,_,_,_,_,_,_,_,_,_,_,_,_,_,_,_,_,_,_,_,_] _))
      refine wpList_one (w' := wr) rfl (index_run rfl (index89 wr g l.length vc k hlt)) ?_
      try (conv => lhs; change (Act.mk #[_,_,_,_,_,_,_,_,_,_,_,_,_,_,_,_,_,_,_,_,_] _))
      refine wpList_one (w' := wr) rfl (load_run (x := .tmp 13) rfl rfl HLD.out) ?_
      try (conv => lhs; change (Act.mk #[_,_,_,_,_,_,_,_,_,_,_,_,_,_,_,_,_,_,_,_,_] _))
      refine wpList_one (v := .pointer (some ⟨wr.heap.size, 0, none⟩)) (w' := wr.alloc (.cells Try.zeroCells139 139)) rfl (by kernel_rfl) ?_
      try (conv => lhs; change (Act.mk #[_,_,_,_,_,_,_,_,_,_,_,_,_,_,_,_,_,_,_,_,_] _))
      refine wpList_one (w' := wr.alloc (.cells Try.zeroCells139 139)) rfl (move_run' (x := .tmp 12) rfl rfl) ?_
      try (conv => lhs; change (Act.mk #[_,_,_,_,_,_,_,_,_,_,_,_,_,_,_,_,_,_,_,_,_] _))
      refine wpList_put rfl 139 (.tmp 4) (.tmp 14) rfl (A := ⟨wr.heap.size, 0, none⟩) (v := .agg A) rfl rfl HST.out ?_
      try (conv => lhs; change (Act.mk #[_,_,_,_,_,_,_,_,_,_,_,_,_,_,_,_,_,_,_,_,_] _))
      rw [← hq]
      clear hq
      change Exit.then _ _ Exit.normal _ _
      gi_upto_region 3 with (fail)
      refine wpIn_region_lit ?_
      refine wpListIn_one (w' := W1) (fun _ => trivial) rfl (by intro c h; cases h) (move_run (x := .tmp 0) rfl rfl) ?_
      refine wpListIn_one (w' := W1) (fun _ => trivial) rfl (by intro c h; cases h) (move_run (x := .tmp 3) rfl rfl) ?_
      refine wpListIn_one (w' := W1) (fun _ => trivial) rfl (by intro c h; cases h) (load_run (x := .tmp 4) rfl rfl HLD2.out) ?_
      have hy := HY.out
      gi_wp2
      refine ⟨rfl, HR.out.mono ?_⟩
      clear hy hi
      rintro e W' (⟨rfl, hI'⟩ | ⟨rfl, hend⟩)
      · have HI' := Lib.hid hI'
        clear hI'
        gi_wp2
        go_roundw
        case rel => exact ⟨k + 1, by omega, by go_num, HI'.out⟩
        case measure => simp [intOf]; omega
      · have HEND := Lib.hid hend
        clear hend
        gi_wp2
        exact bodyPost_ret (results_none rfl _ _ _) rfl ⟨⟨_, rfl⟩, HEND.out⟩
    · have hke : k = l.length := by omega
      subst hke
      gi_wp2
      go_end0
      exact ⟨⟨_, rfl⟩, hN _ hIk⟩
end Go.Proofs.Ytdecbimklomdjaa
namespace Go.Proofs.Ytdecbimklomdjaa
open Go Go.RowKit Go.Shelf
attribute [local go_sem] Oper.semAt_some
/-- .. whose variables are made anew each round. -/
theorem yieldAt_made {P : Program} {l : Nat} {fn : FuncId} {t0 : Array Value} {ps : Array Tmp} {assign body : Code} {D : Nat} {rec : LoopState → Option Code → Loop}
    (hrec : ∀ st pe, rec st pe = { state := st, pending := pe, fn, tmps := t0, params := ps, assign, body, defers := D })
    {args : Array Value} {W : World} {R : Ending → World → Prop} (hl : W.heap[l]? = some (.loop (rec .ready none))) (hs : args.size = ps.size)
    (ha : assign.wpIn (Fence.wide.inRound l) 0 P (Exit.then (fun a₁ w₁ => w₁.heap[l]? = some (.loop (rec .ready none)) ∧ body.wpIn (Fence.wide.inRound l) 0 P (roundEnd l rec R) a₁ (w₁.putObj l (.loop (rec .busy none)))) (fun _ _ _ => False))
      { tmps := (ps.zip args).foldl (fun t (p, v) => t.setIfInBounds p v) t0, defers := [] } W) :
    YieldAt Fence.wide 0 P l args W R := by
  have hy := run_yield (P := P) (args := args) hl (by rw [hrec]; exact hs)
  rw [hrec] at hy
  refine ⟨fn, _, assign, body, hy, roundIn_of_wpIn trivial (wpIn_mono ha ?_)⟩
  intro e0 a0 w0 h0
  cases e0 with
  | exit id => exact h0.elim
  | goto t => exact h0.elim
  | ret => exact h0.elim
  | panic ch => exact h0.elim
  | outgrown => exact h0.elim
  | normal =>
  obtain ⟨hl0, hb⟩ := h0
  have hbr := run_beginRound (P := P) hl0 (by rw [hrec])
  rw [hrec] at hbr
  refine ⟨_, hbr, ?_⟩
  rw [hrec] at hb
  refine wpIn_mono hb ?_
  intro e a2 W2 hp
  have fin : ∀ jump, W2.heap[l]? = some (.loop (rec .busy none)) → (Instr.endRound l jump).run P W2 = .ok (.bool jump.isNone) (W2.putObj l (.loop (rec (if jump.isNone then .ready else .done) jump))) := fun jump h => by
    have := run_endRound (P := P) jump h
    rw [hrec] at this ⊢
    exact this
  cases e with
  | normal => exact ⟨_, _, fin none hp.1, hp.2⟩
  | ret => exact ⟨_, _, fin (some .ret) hp.1, hp.2⟩
  | exit id => exact ⟨_, _, fin (some (.exit id)) hp.1, hp.2⟩
  | goto t => exact hp.elim
  | panic ch => exact hp.elim
  | outgrown => exact hp.elim
theorem wpListIn_put {F : Fence} {n : Nat} {P : Program} {ops : Array Oper} {rest : List Oper} {o : Oper} {a : Act} {w w' : World} {Q : Exit → Act → World → Prop} (hF : ∀ f, F.fn f) (hgd : o.guard = none) (ty : TypeId) (x y : Operand) (ho : o.op = .store ty x y) {A : Addr} {v : Value}
    (hx : a.eval x = .pointer (some A)) (hy : a.eval y = v) (hl : (storeVar ty A v).run P w = .ok () w')
    (hK : wpListIn F n P ops Q rest (a.put o.dst undef) w') : wpListIn F n P ops Q (o :: rest) a w :=
  wpListIn_plain hgd fun K hK' => ⟨fun f _ => hF f, by rw [Oper.semAt_plain _ _ _ (by intro c h; rw [ho] at h; cases h), store_run ho hx hy hl]; exact hK' _ _ hK⟩
theorem call_run {P : Program} {o : Oper} {ρ : Operand → Value} {w : World} {f : FuncId} {cap : Array Value} {x y : Operand} {u : Value} {t : TypeId} (ho : o.op = .call { callee := .value x, args := #[y], argTypes := #[t] }) (hx : ρ x = .func (.func f) #[] cap) (hy : ρ y = u)
    (ef : ∀ args w, (callFunc f args).run P w = .ok (.enter f args) w) : (execOp ρ o).run P w = .ok (.enter f (#[u] ++ cap)) w := by
  simp [execOp, ho, resolve, hx, hy, invoke, go_sem, ef]
theorem wpListIn_call {L : Nat} {P : Program} {ops : Array Oper} {rest : List Oper} {o : Oper} {a : Act} {w : World} {Q : Exit → Act → World → Prop} (hF : ∀ f, (Fence.wide.inRound L).fn f) (hgd : o.guard = none) (hd : ∀ c, o.op ≠ .defer c) {f : FuncId} {args : Array Value} (h : (execOp a.eval o).run P w = .ok (.enter f args) w)
    (hc : Calls P f args w fun e w' => ∃ v, e = .returned v ∧ wpListIn (Fence.wide.inRound L) 0 P ops Q rest (a.put o.dst v) w') : wpListIn (Fence.wide.inRound L) 0 P ops Q (o :: rest) a w :=
  wpListIn_plain hgd fun K hK' => ⟨fun f _ => hF f, by
    rw [Oper.semAt_plain _ _ _ hd, h]
    refine ⟨fun h => by simp [Fence.wide] at h, (CallsIn.inRound _ (callsIn_wide.2 hc)).mono ?_⟩
    rintro e w' ⟨v, rfl, hv⟩
    exact hK' _ _ hv⟩
/-- The first of a pool's blocks of which this holds. -/
def firstAt (d : List UInt8 × Nat → Bool) (l : List (List UInt8 × Nat)) : Int := match l.findIdx? d with | some i => (i : Int) | none => -1
theorem firstAt_found {d : List UInt8 × Nat → Bool} {l : List (List UInt8 × Nat)} {k : Nat} {b : List UInt8 × Nat} (hi : l[k]? = some b) (hd : d b = true) (hall : ∀ j b, j < k → l[j]? = some b → d b = false) : firstAt d l = (k : Int) := by
  have hlt := (List.getElem?_eq_some_iff.1 hi).1
  have he := (List.getElem?_eq_some_iff.1 hi).2
  have : l.findIdx? d = some k := List.findIdx?_eq_some_iff_getElem.2 ⟨hlt, by rw [he]; exact hd, fun j hj => by
    have := hall j l[j] hj (List.getElem?_eq_getElem (by omega))
    simp [this]⟩
  unfold firstAt
  rw [this]
structure FindM (w W : World) (B p : Nat) (F : Value) (r : Int) (lp : Loop) : Prop where
  below : Below w.heap.size w W
  size : B + 5 ≤ W.heap.size
  f : W.heap[B]? = some (.cells #[F] 142 (0, 0))
  y : W.heap[B + 1]? = some (.cells #[.int .i64 r] 3 (0, 0))
  b : W.heap[B + 2]? = some (.cells #[.pointer (some ⟨p, 0, none⟩)] 44 (0, 0))
  d : W.heap[B + 3]? = some (.deferred (some []))
  l : W.heap[B + 4]? = some (.loop lp)
theorem FindM.mono {w W W' : World} {B p : Nat} {F : Value} {r : Int} {lp : Loop} (h : FindM w W B p F r lp) (hb : Below W.heap.size W W') : FindM w W' B p F r lp :=
  ⟨h.below.trans (hb.mono h.below.size), Nat.le_trans h.size hb.size, block_below' hb h.f, block_below' hb h.y, block_below' hb h.b, block_below' hb h.d, block_below' hb h.l⟩
theorem FindM.put {w W : World} {B p : Nat} {F : Value} {r : Int} {lp : Loop} (h : FindM w W B p F r lp) (hB : B = w.heap.size) (lp' : Loop) : FindM w (W.putObj (B + 4) (.loop lp')) B p F r lp' := by
  have hs := h.size
  have ho : ∀ i, i ≠ B + 4 → (W.putObj (B + 4) (.loop lp')).heap[i]? = W.heap[i]? := fun i hi => World.putObj_heap_other hi
  refine ⟨?_, by simpa using hs, (ho _ (by omega)).trans h.f, (ho _ (by omega)).trans h.y, (ho _ (by omega)).trans h.b, (ho _ (by omega)).trans h.d, World.putObj_heap_same (by omega)⟩
  exact ⟨h.below.os, h.below.tape, h.below.output, by simpa using h.below.size, fun i hi => (ho i (by omega)).trans (h.below.block i hi)⟩
theorem FindM.set {w W : World} {B p : Nat} {F : Value} {r : Int} {lp : Loop} (h : FindM w W B p F r lp) (hB : B = w.heap.size) (r' : Int) : FindM w (W.setCell ⟨B + 1, 0, none⟩ (.int .i64 r')) B p F r' lp := by
  have ho : ∀ i, i ≠ B + 1 → (W.setCell ⟨B + 1, 0, none⟩ (.int .i64 r')).heap[i]? = W.heap[i]? := fun i hi => heap_setCell_other _ _ _ _ hi
  exact ⟨h.below.setCell (p := ⟨B + 1, 0, none⟩) (by show w.heap.size ≤ B + 1; omega) _, by simpa using h.size, (ho _ (by omega)).trans h.f, (heap_setCell_same _ _ _ _ _ _ h.y).trans rfl, (ho _ (by omega)).trans h.b, (ho _ (by omega)).trans h.d, (ho _ (by omega)).trans h.l⟩
set_option maxRecDepth 100000 in
theorem load142 {w : World} {A : Addr} {v : Value} (h : w.cell? A = some v) : (loadVar 142 A).run Try.prog w = .ok v w := by
  have hu : isAgg 142 = isAgg 142 := rfl
  have : (isAgg 142).run Try.prog w = .ok false w := by kernel_rfl
  simp [loadVar, this, h]
set_option maxRecDepth 100000 in
set_option maxHeartbeats 1000000 in
theorem find_any (p c : Nat) (v : Value) (most : Nat) (l : List (List UInt8 × Nat)) (f : FuncId) (cap : Array Value) (d : List UInt8 × Nat → Bool) (ef : ∀ args w, (callFunc f args).run Try.prog w = .ok (.enter f args) w) (w : World) (hp : PoolAt w p c v most l)
    (hf : ∀ prev n, (prev, n) ∈ l → ∀ W, Below w.heap.size w W → Calls Try.prog f (#[.agg (oneL (hh prev n) prev n).toArray] ++ cap) W fun e W' => e = .returned (.bool (d (prev, n))) ∧ Below W.heap.size W W') :
    Calls Try.prog 97 #[.pointer (some ⟨p, 0, none⟩), .func (.func f) #[] cap] w fun e w' => e = .returned (.int .i64 (firstAt d l)) ∧ Below w.heap.size w w' := by
  obtain ⟨B, hB⟩ : ∃ B, B = w.heap.size := ⟨_, rfl⟩
  obtain ⟨F, hF⟩ : ∃ F, F = Value.func (.func f) #[] cap := ⟨_, rfl⟩
  have h1 : F.oneCell' = true := by rw [hF]; rfl
  have hc : F.cells = #[F] := by rw [hF]; rfl
  rw [← hF]
  have HFE := Lib.hid hF
  have HBE := Lib.hid hB
  have HP := Lib.hid hp
  have HF := Lib.hid hf
  have EF := Lib.hid ef
  clear hp hf ef
  refine calls_of_wp_marks Try.func97 rfl ?_
  simp only [Try.ntmps97, List.size_toArray, List.length_cons, List.length_nil, Nat.reduceAdd, Nat.reduceSub, Array.replicate_succ, Array.replicate_zero, List.push_toArray, List.append_toArray, List.nil_append, List.cons_append]
  clear hF
  go_wp2_with fail
  refine wp_scope_straight ?_
  rw [← hB]
  clear hB hc
  go_wp2_with fail
  refine wp_label ?_
  go_wp2_with (go_at_call 94; refine (each_any _ _).mono ?_; rintro e W4 ⟨rfl, rfl⟩)
  obtain ⟨W3, hW3, hb3, hn1, hn2, hn3, hsz⟩ := three_at w (.cells #[F] 142) (.cells #[.int .i64 (-1)] 3) (.cells #[.pointer (some ⟨p, 0, none⟩)] 44)
  rw [hW3, ← HBE.out]
  rw [← HBE.out] at hn1 hn2 hn3 hsz
  have HB3 := Lib.hid hb3
  have HN1 := Lib.hid hn1
  have HN2 := Lib.hid hn2
  have HN3 := Lib.hid hn3
  have HSZ := Lib.hid hsz
  clear hW3 hb3 hn1 hn2 hn3
  refine wp_rangeFunc rfl (enters_of Try.func123 (by kernel_rfl) rfl) ?_
  rintro rec ⟨fn, hrec⟩
  rw [hsz] at hrec ⊢
  have HREC := Lib.hid hrec
  clear hrec hsz
  have he : B + 1 + 1 = B + 2 := rfl
  have he4 : B + 3 + 1 = B + 4 := rfl
  rw [he4]
  refine (each1_in (B + 4) (B + 2) p c v most l (fun k W => FindM w W B p F (-1) (rec .ready none) ∧ ∀ j b, j < k → l[j]? = some b → d b = false)
    (fun W => ∃ st pe, FindM w W B p F (firstAt d l) (rec st pe) ∧ st ≠ .busy ∧ (pe = none ∨ pe = some (.exit 0))) ?hP ?hA ?hY ?hN _ ?h0).mono ?fin
  case hP =>
    rintro k W ⟨h, _⟩
    exact ⟨HP.out.below h.below, cell_of_row _ _ _ _ _ _ h.b⟩
  case hA =>
    rintro k W o ⟨h, h2⟩
    exact ⟨h.mono ((Below.refl _ _).alloc (Nat.le_refl _) _), h2⟩
  case hN =>
    rintro W ⟨h, h2⟩
    refine ⟨.ready, none, ?_, by simp, .inl rfl⟩
    have : firstAt d l = -1 := by
      unfold firstAt
      have : l.findIdx? d = none := List.findIdx?_eq_none_iff.2 fun b hb => by
        obtain ⟨j, hj⟩ := List.getElem?_of_mem hb
        exact h2 j b (List.getElem?_eq_some_iff.1 hj).1 hj
      rw [this]
    rw [this]
    exact h
  case h0 =>
    refine ⟨⟨?_, ?_, ?_, ?_, ?_, ?_, ?_⟩, fun j b hj => by omega⟩
    · exact ((HB3.out.alloc HB3.out.size _).alloc (by have := HB3.out.size; simp; omega) _)
    · simp [HSZ.out]
    · rw [heap_alloc_lt (by simp [HSZ.out]; omega), heap_alloc_lt (by rw [HSZ.out]; omega)]; exact HN1.out
    · rw [heap_alloc_lt (by simp [HSZ.out]), heap_alloc_lt (by rw [HSZ.out]; omega)]; exact HN2.out
    · rw [heap_alloc_lt (by simp [HSZ.out]), heap_alloc_lt (by rw [HSZ.out]; omega)]; exact HN3.out
    · rw [heap_alloc_lt (by simp [HSZ.out]), ← HSZ.out]; exact heap_alloc_new _ _
    · have := heap_alloc_new (W3.alloc (.deferred (some []))) (.loop (rec .ready none))
      rwa [show (W3.alloc (.deferred (some []))).heap.size = B + 4 by simp [HSZ.out]] at this
  case hY =>
    rintro k W prev n hi ⟨hM, hall⟩
    obtain ⟨_, _, _, hpl, _⟩ := items_split (l := l) HP.out.lens hi
    have hmem := List.mem_of_getElem? hi
    have hHF := HF.out prev n hmem
    obtain ⟨A, hA⟩ : ∃ A, A = (oneL (hh prev n) prev n).toArray := ⟨_, rfl⟩
    obtain ⟨W1, hW1⟩ : ∃ W1, W1 = W.alloc (.cells A 139) := ⟨_, rfl⟩
    obtain ⟨q, hq⟩ : ∃ q, q = W.heap.size := ⟨_, rfl⟩
    have hb1 : Below W.heap.size W W1 := hW1 ▸ (Below.refl _ _).alloc (Nat.le_refl _) _
    have hrow : W1.heap[q]? = some (.cells A 139 (0, 0)) := by rw [hW1, hq]; exact heap_alloc_new _ _
    have hst := one_store (n := n) (heap_alloc_new W (.cells Try.zeroCells139 139)) (by kernel_rfl) hpl
    rw [World.setRow_alloc_new, ← hA, ← hW1] at hst
    have hM1 := hM.mono hb1
    have hM2 := hM1.put HBE.out (rec .busy none)
    obtain ⟨W2, hW2⟩ : ∃ W2, W2 = W1.putObj (B + 4) (.loop (rec .busy none)) := ⟨_, rfl⟩
    rw [← hW2] at hM2
    have hrow2 : W2.heap[q]? = some (.cells A 139 (0, 0)) := by rw [hW2, World.putObj_heap_other (by have := hM.size; omega)]; exact hrow
    have hld2 : (loadVar 139 ⟨q, 0, none⟩).run Try.prog W2 = .ok (.agg A) W2 := by
      rw [hA] at hrow2 ⊢
      exact one_load (one_row hrow2) hpl
    have HST := Lib.hid hst
    have HLD := Lib.hid hld2
    have HM1 := Lib.hid hM1
    have HM2 := Lib.hid hM2
    have HC := Lib.hid (hHF W2 hM2.below)
    have HA := Lib.hid hA
    have HALL := Lib.hid hall
    have HI := Lib.hid hi
    rw [← hA] at HC
    have hl := hM.l
    clear hst hld2 hM1 hrow hrow2 hb1 hHF hA hM hM2 hall hi hmem
    refine yieldAt_made HREC.out hl rfl ?_
    rw [← HA.out]
    clear hl
    gi_upto_region 4 with (fail)
    refine wpIn_region_lit ?_
    refine wpListIn_one (v := .pointer (some ⟨W.heap.size, 0, none⟩)) (w' := W.alloc (.cells Try.zeroCells139 139)) (fun _ => trivial) rfl (by intro c h; cases h) (by kernel_rfl) ?_
    try (conv => lhs; change (Act.mk #[_,_,_,_,_,_,_,_,_,_,_,_,_,_,_,_,_] _))
    refine wpListIn_put (fun _ => trivial) rfl 139 (.tmp 7) (.tmp 11) rfl (A := ⟨W.heap.size, 0, none⟩) (v := .agg A) rfl rfl HST.out ?_
    try (conv => lhs; change (Act.mk #[_,_,_,_,_,_,_,_,_,_,_,_,_,_,_,_,_] _))
    rw [← hq]
    refine ⟨HM1.out.l, ?_⟩
    rw [← hW2]
    clear hq hW1 hW2
    gi_upto_region 5 with (fail)
    refine wpIn_region_lit ?_
    refine wpListIn_one (w' := W2) (fun _ => trivial) rfl (by intro c h; cases h) (load_run (x := .tmp 3) rfl rfl (load142 (cell_of_row _ _ _ _ _ _ HM2.out.f))) ?_
    try (conv => lhs; change (Act.mk #[_,_,_,_,_,_,_,_,_,_,_,_,_,_,_,_,_] _))
    refine wpListIn_one (w' := W2) (fun _ => trivial) rfl (by intro c h; cases h) (load_run (x := .tmp 7) rfl rfl HLD.out) ?_
    try (conv => lhs; change (Act.mk #[_,_,_,_,_,_,_,_,_,_,_,_,_,_,_,_,_] _))
    refine wpListIn_call (fun _ => trivial) rfl (by intro c h; cases h) (call_run (x := .tmp 12) (y := .tmp 13) (u := .agg A) rfl HFE.out rfl EF.out) (HC.out.mono ?_)
    rintro e W4 ⟨rfl, hb4⟩
    refine ⟨_, rfl, ?_⟩
    try (conv => lhs; change (Act.mk #[_,_,_,_,_,_,_,_,_,_,_,_,_,_,_,_,_] _))
    have hM4 := HM2.out.mono hb4
    have hcy : W4.cell? ⟨B + 1, 0, none⟩ = some (.int .i64 (-1)) := cell_of_row _ _ _ _ _ _ hM4.y
    have hfy : W4.frozen? ⟨B + 1, 0, none⟩ = false := frozen_of_row _ _ _ _ _ hM4.y
    have HM4 := Lib.hid hM4
    clear hM4 hb4
    cases hd : d (prev, n) with
    | false =>
      have HD := Lib.hid hd
      clear hd
      change Exit.then _ _ Exit.normal _ _
      gi_wp2
      refine ⟨HM4.out.l, .inl ⟨rfl, HM4.out.put HBE.out _, fun j a b hj hb => ?_⟩⟩
      rcases Nat.lt_or_ge j k with h | h
      · exact HALL.out j (a, b) h hb
      · have : j = k := by omega
        subst this
        have := hb.symm.trans HI.out
        cases this
        exact HD.out
    | true =>
      have HD := Lib.hid hd
      clear hd
      change Exit.then _ _ Exit.normal _ _
      gi_wp2
      have hfa : firstAt d l = (k : Int) := firstAt_found HI.out HD.out HALL.out
      refine ⟨(HM4.out.set HBE.out _).l, .inr ⟨rfl, .done, some (.exit 0), ?_, by simp, .inr rfl⟩⟩
      rw [hfa]
      exact (HM4.out.set HBE.out _).put HBE.out _
  case fin =>
    rintro e W' ⟨⟨v', rfl⟩, st, pe, hM, hst, hpe⟩
    refine ⟨⟨v', rfl⟩, st, pe, hst, hM.l, ?_⟩
    rcases hpe with rfl | rfl
    · obtain ⟨W6, hW6⟩ : ∃ W6, W6 = W'.putObj (B + 4) (.loop (rec .exhausted none)) := ⟨_, rfl⟩
      have hM6 := hM.put HBE.out (rec .exhausted none)
      rw [← hW6] at hM6
      have hc6 : W6.cell? ⟨B + 1, 0, none⟩ = some (.int .i64 (firstAt d l)) := cell_of_row _ _ _ _ _ _ hM6.y
      have HM6 := Lib.hid hM6
      try dsimp only
      rw [← hW6]
      clear hM6 hM hst hW6
      go_wp2_with fail
      exact leave_mark (.inr rfl) rfl HM6.out.d (results_tmp rfl _ _ _) ⟨rfl, by have := HM6.out.below; exact ⟨this.os, this.tape, this.output, by simpa using this.size, fun i hi => (World.putObj_heap_other (by have := HBE.out; omega)).trans (this.block i hi)⟩⟩
    · obtain ⟨W6, hW6⟩ : ∃ W6, W6 = W'.putObj (B + 4) (.loop (rec .exhausted (some (.exit 0)))) := ⟨_, rfl⟩
      have hM6 := hM.put HBE.out (rec .exhausted (some (.exit 0)))
      rw [← hW6] at hM6
      have hc6 : W6.cell? ⟨B + 1, 0, none⟩ = some (.int .i64 (firstAt d l)) := cell_of_row _ _ _ _ _ _ hM6.y
      have HM6 := Lib.hid hM6
      try dsimp only
      rw [← hW6]
      clear hM6 hM hst hW6
      go_wp2_with fail
      exact leave_mark (.inr rfl) rfl HM6.out.d (results_tmp rfl _ _ _) ⟨rfl, by have := HM6.out.below; exact ⟨this.os, this.tape, this.output, by simpa using this.size, fun i hi => (World.putObj_heap_other (by have := HBE.out; omega)).trans (this.block i hi)⟩⟩
end Go.Proofs.Ytdecbimklomdjaa
namespace Go.Proofs.Ytdecbimklomdjaa
open Go Go.RowKit Go.Shelf
section
variable {P : Program} {ops : Array Oper} {rest : List Oper} {o : Oper} {a : Act} {w w' : World} {Q : Exit → Act → World → Prop}
/-- An operation that is guarded, and wanted. -/
theorem wpList_oneW (hw : Region.wanted o (yielded ops a.tmps) = true) {v : Value} (h : (execOp a.eval o).run P w = .ok (.value v) w') (hK : wpList P ops Q rest (a.put o.dst v) w') : wpList P ops Q (o :: rest) a w :=
  wpList_step fun K hK' => by
    rw [if_pos hw]
    unfold Oper.wp
    rw [h]
    exact hK' _ _ hK
theorem wpList_skipW (hw : Region.wanted o (yielded ops a.tmps) = false) (hK : wpList P ops Q rest (a.put o.dst undef) w) : wpList P ops Q (o :: rest) a w :=
  wpList_step fun K hK' => by
    rw [if_neg (by rw [hw]; exact Bool.false_ne_true)]
    exact hK' _ _ hK
theorem wpList_callW (hw : Region.wanted o (yielded ops a.tmps) = true) {f : FuncId} {args : Array Value} (h : (execOp a.eval o).run P w = .ok (.enter f args) w)
    (hc : Calls P f args w fun e w' => ∃ v, e = .returned v ∧ wpList P ops Q rest (a.put o.dst v) w') : wpList P ops Q (o :: rest) a w :=
  wpList_step fun K hK => by
    rw [if_pos hw]
    unfold Oper.wp
    rw [h]
    refine hc.mono ?_
    rintro e w' ⟨v, rfl, hv⟩
    exact hK _ _ hv
end
theorem eq28_run {o : Oper} {ρ : Operand → Value} {w : World} {x y : Operand} {a b : List UInt8} (ho : o.op = .binOp .eql 28 x y 28) (hx : ρ x = .agg (bytesA a)) (hy : ρ y = .agg (bytesA b)) (ha : a.length = 32) (hb : b.length = 32) : (execOp ρ o).run Try.prog w = .ok (.value (.bool (a == b))) w := by
  have h : (binOp .eql 28 (.agg (bytesA a)) (.agg (bytesA b))).run Try.prog w = .ok (.bool (a == b)) w := eql28 a b w ha hb
  simp only [execOp, ho, hx, hy, Sem.run_bind, eg28, Result.andThen_ok, h, Sem.run_pure]
theorem load28 {w : World} {g : Nat} {x : List UInt8} (h : w.heap[g]? = some (.cells (bytesA x) 28 (0, 0))) (hx : x.length = 32) : (loadVar 28 ⟨g, 0, none⟩).run Try.prog w = .ok (.agg (bytesA x)) w :=
  blk_row w g (x.map V8) 28 _ (0, 0) 28 h Try.underlying28 rfl (by rw [List.length_map, hx]; kernel_rfl)
theorem store28 {w : World} {g : Nat} {old : Array Value} {t : TypeId} {x : List UInt8} (h : w.heap[g]? = some (.cells old t (0, 0))) (ho : old.size = 32) (hx : x.length = 32) : (storeVar 28 ⟨g, 0, none⟩ (.agg (bytesA x))).run Try.prog w = .ok () (w.setRow g (bytesA x)) :=
  run_storeVar_row w g t 28 old (bytesA x) h (by rw [size_bytesA, hx]; kernel_rfl) (by rw [ho, size_bytesA, hx]) (all_bytes _)
theorem one_hash {w : World} {g : Nat} {prev : List UInt8} {n : Nat} (h : w.heap[g]? = some (.cells (oneL (hh prev n) prev n).toArray 139 (0, 0))) : (loadVar 28 ⟨g, 0, none⟩).run Try.prog w = .ok (.agg (bytesA (hh prev n))) w :=
  blk_part w g 0 (oneL (hh prev n) prev n) ((hh prev n).map V8) 28 _ (0, 0) 139 h (part_head _ _) Try.underlying28 rfl (by rw [List.length_map, hh_length]; kernel_rfl)
theorem one_parent {w : World} {g : Nat} {prev : List UInt8} {n : Nat} (h : w.heap[g]? = some (.cells (oneL (hh prev n) prev n).toArray 139 (0, 0))) (hp : prev.length = 32) : (loadVar 28 ⟨g, 33, none⟩).run Try.prog w = .ok (.agg (bytesA prev)) w :=
  blk_part w g 33 (oneL (hh prev n) prev n) (prev.map V8) 28 _ (0, 0) 139 h (fun j v hj => by
    have := part_mid ((hh prev n).map V8 ++ [.int .u32 0]) (prev.map V8) ((Sha.zeros 32).map V8 ++ [.int .u32 0, .int .u32 0, .int .u32 (n : Int)] ++ [.slice none 0 0]) 33 j v (by simp [hh_length]) hj
    simpa [oneL, blkL, hdrL] using this) Try.underlying28 rfl (by rw [List.length_map, hp]; kernel_rfl)
set_option maxRecDepth 100000 in
theorem at1_any (x prev : List UInt8) (n : Nat) (hx : x.length = 32) (b : Nat) (w : World) (hb : w.heap[b]? = some (.cells (bytesA x) 28 (0, 0))) :
    Calls Try.prog 125 #[.agg (oneL (hh prev n) prev n).toArray, .pointer (some ⟨b, 0, none⟩)] w fun e w' => e = .returned (.bool (hh prev n == x)) ∧ Below w.heap.size w w' := by
  obtain ⟨W1, hW1⟩ : ∃ W1, W1 = w.alloc (.cells (oneL (hh prev n) prev n).toArray 139) := ⟨_, rfl⟩
  obtain ⟨q, hq⟩ : ∃ q, q = w.heap.size := ⟨_, rfl⟩
  have hb1 : Below w.heap.size w W1 := hW1 ▸ (Below.refl _ _).alloc (Nat.le_refl _) _
  have HR : Hid (W1.heap[q]? = some (.cells (oneL (hh prev n) prev n).toArray 139 (0, 0))) := Lib.hid (by rw [hW1, hq]; exact heap_alloc_new _ _)
  have HX := Lib.hid hx
  have HB := Lib.hid (block_below' hb1 hb)
  have HB1 := Lib.hid hb1
  have HW1 := Lib.hid hW1
  have HQ := Lib.hid hq
  clear hx hb hb1 hW1 hq
  go_enter Try.func125, Try.ntmps125
  go_upto_region 1 with (fail)
  change Code.wp Try.prog _ _ _ (w.alloc (.cells (oneL (hh prev n) prev n).toArray 139))
  rw [← HW1.out, ← HQ.out]
  refine wp_region_lit ?_
  refine wpList_one (v := .pointer (some ⟨q, 0, none⟩)) (w' := W1) rfl (by kernel_rfl) ?_
  try (conv => lhs; change (Act.mk #[_,_,_,_,_,_,_,_] _))
  refine wpList_get rfl 28 (.tmp 4) rfl (A := ⟨q, 0, none⟩) rfl (one_hash HR.out) ?_
  try (conv => lhs; change (Act.mk #[_,_,_,_,_,_,_,_] _))
  refine wpList_get rfl 28 (.tmp 1) rfl (A := ⟨b, 0, none⟩) rfl (load28 HB.out HX.out) ?_
  try (conv => lhs; change (Act.mk #[_,_,_,_,_,_,_,_] _))
  refine wpList_one (w' := W1) rfl (eq28_run (x := .tmp 5) (y := .tmp 6) rfl rfl rfl (hh_length _ _) HX.out) ?_
  try (conv => lhs; change (Act.mk #[_,_,_,_,_,_,_,_] _))
  go_wp2_with fail
  go_ret
  exact ⟨rfl, HB1.out⟩
/-- Where a pool holds a hash. -/
def atL (x : List UInt8) (l : List (List UInt8 × Nat)) : Int := firstAt (fun b => hh b.1 b.2 == x) l
set_option maxRecDepth 100000 in
theorem at_any (p c : Nat) (v : Value) (most : Nat) (l : List (List UInt8 × Nat)) (x : List UInt8) (hx : x.length = 32) (w : World) (hp : PoolAt w p c v most l) :
    Calls Try.prog 96 #[.pointer (some ⟨p, 0, none⟩), .agg (bytesA x)] w fun e w' => e = .returned (.int .i64 (atL x l)) ∧ Below w.heap.size w w' := by
  have hb1 : Below w.heap.size w (w.alloc (.cells (bytesA x) 28)) := (Below.refl _ _).alloc (Nat.le_refl _) _
  have h := find_any p c v most l 125 #[.pointer (some ⟨w.heap.size, 0, none⟩)] (fun b => hh b.1 b.2 == x) (enters_of Try.func125 (by kernel_rfl) rfl) _ (hp.below hb1)
    (fun prev n _ W hb => at1_any x prev n hx w.heap.size W (block_below' hb (heap_alloc_new _ _)))
  have H := Lib.hid h
  have HB := Lib.hid hb1
  clear h hb1 hx hp
  go_enter Try.func96, Try.ntmps96
  go_wp2_with (go_at_call 97; refine H.out.mono ?_; rintro e w' ⟨rfl, hb⟩)
  go_ret
  exact ⟨rfl, HB.out.trans (hb.mono HB.out.size)⟩
theorem firstAt_nonneg (d : List UInt8 × Nat → Bool) (l : List (List UInt8 × Nat)) : (0 ≤ firstAt d l) ↔ l.any d = true := by
  unfold firstAt
  cases h : l.findIdx? d with
  | none => 
    have := List.findIdx?_eq_none_iff.1 h
    simp
    intro a b hab
    have := this _ hab
    simpa using this
  | some i =>
    have := List.findIdx?_eq_some_iff_getElem.1 h
    obtain ⟨h1, h2, _⟩ := this
    simp
    exact ⟨_, _, List.getElem_mem h1, h2⟩
theorem firstAt_lt (d : List UInt8 × Nat → Bool) (l : List (List UInt8 × Nat)) : -1 ≤ firstAt d l ∧ firstAt d l < l.length + 1 := by
  unfold firstAt
  cases h : l.findIdx? d with
  | none => simp; omega
  | some i =>
    obtain ⟨h1, h2, _⟩ := List.findIdx?_eq_some_iff_getElem.1 h
    simp
    omega
theorem geq_run {o : Oper} {ρ : Operand → Value} {w : World} {x : Operand} {z : Int} (ho : o.op = .binOp .geq 3 x (.const (.int .i64 0)) 3) (hx : ρ x = .int .i64 z) (hc : ρ (.const (.int .i64 0)) = .int .i64 0 := by rfl) : (execOp ρ o).run Try.prog w = .ok (.value (.bool (decide (0 ≤ z)))) w := by
  simp only [execOp, ho, hx, hc]
  rfl
set_option maxRecDepth 100000 in
theorem has_live (p c : Nat) (v : Value) (most : Nat) (l : List (List UInt8 × Nat)) (x : List UInt8) (hx : x.length = 32) (w : World) (hp : PoolAt w p c v most l) :
    Calls Try.prog 56 #[.pointer (some ⟨p, 0, none⟩), .agg (bytesA x)] w fun e w' => e = .returned (.bool (l.any fun b => hh b.1 b.2 == x)) ∧ Below w.heap.size w w' := by
  obtain ⟨W1, hW1⟩ : ∃ W1, W1 = w.alloc (.cells (bytesA x) 28) := ⟨_, rfl⟩
  obtain ⟨q, hq⟩ : ∃ q, q = w.heap.size := ⟨_, rfl⟩
  have hb1 : Below w.heap.size w W1 := hW1 ▸ (Below.refl _ _).alloc (Nat.le_refl _) _
  have HR : Hid (W1.heap[q]? = some (.cells (bytesA x) 28 (0, 0))) := Lib.hid (by rw [hW1, hq]; exact heap_alloc_new _ _)
  have HP := Lib.hid (hp.below hb1)
  have HX := Lib.hid hx
  have HB1 := Lib.hid hb1
  have HW1 := Lib.hid hW1
  have HQ := Lib.hid hq
  have HG := Lib.hid (firstAt_nonneg (fun b => hh b.1 b.2 == x) l)
  clear hx hb1 hW1 hq hp
  go_enter Try.func56, Try.ntmps56
  go_upto_region 1 with (fail)
  change Code.wp Try.prog _ _ _ (w.alloc (.cells (bytesA x) 28))
  rw [← HW1.out, ← HQ.out]
  refine wp_region_lit ?_
  refine wpList_one (v := .pointer (some ⟨p, 0, none⟩)) (w' := W1) rfl (by kernel_rfl) ?_
  try (conv => lhs; change (Act.mk #[_,_,_,_,_,_,_,_,_,_,_,_,_,_] _))
  refine wpList_call rfl (f := 93) (args := #[.pointer (some ⟨p, 0, none⟩)]) (by kernel_rfl) ((none_live W1 p c v most l HP.out).mono ?_)
  rintro e w' ⟨rfl, rfl⟩
  refine ⟨_, rfl, ?_⟩
  try (conv => lhs; change (Act.mk #[_,_,_,_,_,_,_,_,_,_,_,_,_,_] _))
  refine wpList_one (v := .bool true) (w' := W1) rfl (by kernel_rfl) ?_
  try (conv => lhs; change (Act.mk #[_,_,_,_,_,_,_,_,_,_,_,_,_,_] _))
  refine wpList_one (v := .bool true) (w' := W1) rfl (by kernel_rfl) ?_
  try (conv => lhs; change (Act.mk #[_,_,_,_,_,_,_,_,_,_,_,_,_,_] _))
  refine wpList_oneW (v := .pointer (some ⟨p, 0, none⟩)) (w' := W1) (by kernel_rfl) (by kernel_rfl) ?_
  try (conv => lhs; change (Act.mk #[_,_,_,_,_,_,_,_,_,_,_,_,_,_] _))
  refine wpList_oneW (w' := W1) (by kernel_rfl) (load_run (x := .tmp 3) rfl rfl (load28 HR.out HX.out)) ?_
  try (conv => lhs; change (Act.mk #[_,_,_,_,_,_,_,_,_,_,_,_,_,_] _))
  refine wpList_callW (by kernel_rfl) (f := 96) (args := #[.pointer (some ⟨p, 0, none⟩), .agg (bytesA x)]) (by kernel_rfl) ((at_any p c v most l x HX.out W1 HP.out).mono ?_)
  rintro e W2 ⟨rfl, hb2⟩
  refine ⟨_, rfl, ?_⟩
  try (conv => lhs; change (Act.mk #[_,_,_,_,_,_,_,_,_,_,_,_,_,_] _))
  refine wpList_oneW (w' := W2) (by kernel_rfl) (geq_run (x := .tmp 11) rfl rfl) ?_
  try (conv => lhs; change (Act.mk #[_,_,_,_,_,_,_,_,_,_,_,_,_,_] _))
  rw [show decide (0 ≤ atL x l) = l.any (fun b => hh b.1 b.2 == x) from by rw [Bool.eq_iff_iff, decide_eq_true_iff]; exact HG.out]
  refine wpList_one (v := .bool (l.any fun b => hh b.1 b.2 == x)) (w' := W2) rfl (by kernel_rfl) ?_
  try (conv => lhs; change (Act.mk #[_,_,_,_,_,_,_,_,_,_,_,_,_,_] _))
  go_wp2_with fail
  go_ret
  exact ⟨rfl, HB1.out.trans (hb2.mono HB1.out.size)⟩
set_option maxRecDepth 100000 in
theorem has_none (u : Value) (x : List UInt8) (w : World) (h : ∀ W, Below w.heap.size w W → Calls Try.prog 93 #[u] W fun e w' => e = .returned (.bool true) ∧ W = w') :
    Calls Try.prog 56 #[u, .agg (bytesA x)] w fun e w' => e = .returned (.bool false) ∧ Below w.heap.size w w' := by
  obtain ⟨W1, hW1⟩ : ∃ W1, W1 = w.alloc (.cells (bytesA x) 28) := ⟨_, rfl⟩
  have hb1 : Below w.heap.size w W1 := hW1 ▸ (Below.refl _ _).alloc (Nat.le_refl _) _
  have HB1 := Lib.hid hb1
  have HW1 := Lib.hid hW1
  have H := Lib.hid h
  clear hb1 hW1 h
  go_enter Try.func56, Try.ntmps56
  go_upto_region 1 with (fail)
  change Code.wp Try.prog _ _ _ (w.alloc (.cells (bytesA x) 28))
  rw [← HW1.out]
  go_wp2_with (go_at_call 93; refine (H.out _ HB1.out).mono ?_; rintro e w' ⟨rfl, rfl⟩)
  go_ret
  exact ⟨rfl, HB1.out⟩
end Go.Proofs.Ytdecbimklomdjaa
