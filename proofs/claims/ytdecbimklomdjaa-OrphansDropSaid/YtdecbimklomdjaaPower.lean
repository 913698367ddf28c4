/- purserlaw04.power. -/
import Derived.Test.YtdecbimklomdjaaLeft
namespace Go.Proofs.Ytdecbimklomdjaa
open Go Go.RowKit Go.Shelf
theorem info102 (n : Nat) : (Try.prog.info? 102).map (·.size) = some (wideA (digs 4 n)).size := by rw [size_wideA, length_digs]; kernel_rfl
theorem load_wide {W : World} {D n : Nat} (h : W.heap[D]? = some (.cells (wideA (digs 4 n)) 102 (0, 0))) : (loadVar 102 ⟨D, 0, none⟩).run Try.prog W = .ok (.agg (wideA (digs 4 n))) W :=
  run_loadVar_row W D 102 102 _ (0, 0) _ h Try.underlying102 rfl (info102 n)
theorem store_wide {W : World} {D n m : Nat} (h : W.heap[D]? = some (.cells (wideA (digs 4 n)) 102 (0, 0))) : (storeVar 102 ⟨D, 0, none⟩ (.agg (wideA (digs 4 m)))).run Try.prog W = .ok () (W.setRow D (wideA (digs 4 m))) :=
  run_storeVar_row W D 102 102 _ _ h (info102 m) (by rw [size_wideA, size_wideA, length_digs, length_digs]) (all_wide _)
theorem block_below' {b : Nat} {o : Obj} {w w' : World} (hb : Below w.heap.size w w') (h : w.heap[b]? = some o) : w'.heap[b]? = some o := (hb.block b (Array.getElem?_eq_some_iff.1 h).1).trans h
/-- One operation of a region that draws its order, out of its run: it yields a value .. -/
theorem step_val {P : Program} {ops : Array Oper} {o : Oper} {a : Act} {w w' : World} {K : Act → World → Prop} {Q : Exit → Act → World → Prop} {E : Prop} (hg : o.guard = none) (v : Value)
    (h : (execOp a.eval o).run P w = .ok (.value v) w') (hK : K (a.put o.dst v) w') : if Region.wanted o (yielded ops a.tmps) = true then Oper.wp P o a w K Q else E := by
  rw [if_pos (show Region.wanted o (yielded ops a.tmps) = true by simp [Region.wanted, hg])]
  unfold Oper.wp
  rw [h]
  exact hK
/-- .. : it calls. -/
theorem step_call {P : Program} {ops : Array Oper} {o : Oper} {a : Act} {w : World} {K : Act → World → Prop} {Q : Exit → Act → World → Prop} {E : Prop} (hg : o.guard = none) {f : FuncId} {args : Array Value} {R : Value → World → Prop}
    (h : (execOp a.eval o).run P w = .ok (.enter f args) w) (hc : Calls P f args w fun e w' => ∃ v, e = .returned v ∧ R v w') (hK : ∀ v w', R v w' → K (a.put o.dst v) w') :
    if Region.wanted o (yielded ops a.tmps) = true then Oper.wp P o a w K Q else E := by
  rw [if_pos (show Region.wanted o (yielded ops a.tmps) = true by simp [Region.wanted, hg])]
  unfold Oper.wp
  rw [h]
  refine hc.mono ?_
  rintro e w' ⟨v, rfl, hr⟩
  exact hK v w' hr
/-- .. : it loads a row. -/
theorem step_load {P : Program} {ops : Array Oper} {o : Oper} {a : Act} {w : World} {K : Act → World → Prop} {Q : Exit → Act → World → Prop} {E : Prop} (hg : o.guard = none) (ty : TypeId) (x : Operand) (ho : o.op = .load ty x)
    {A : Addr} {v : Value} (hx : a.eval x = .pointer (some A)) (hl : (loadVar ty A).run P w = .ok v w) (hK : K (a.put o.dst v) w) :
    if Region.wanted o (yielded ops a.tmps) = true then Oper.wp P o a w K Q else E := by
  refine step_val hg v ?_ hK
  unfold execOp
  simp only [ho, hx, Instr.loadAt, Instr.sureAddr, Sem.run_bind, Sem.run_pure, Result.andThen_ok, hl]
/-- .. : it stores a row. -/
theorem step_store {P : Program} {ops : Array Oper} {o : Oper} {a : Act} {w w' : World} {K : Act → World → Prop} {Q : Exit → Act → World → Prop} {E : Prop} (hg : o.guard = none) (ty : TypeId) (x y : Operand) (ho : o.op = .store ty x y)
    {A : Addr} {v : Value} (hx : a.eval x = .pointer (some A)) (hy : a.eval y = v) (hl : (storeVar ty A v).run P w = .ok () w') (hK : K (a.put o.dst undef) w') :
    if Region.wanted o (yielded ops a.tmps) = true then Oper.wp P o a w K Q else E := by
  rw [if_pos (show Region.wanted o (yielded ops a.tmps) = true by simp [Region.wanted, hg])]
  unfold Oper.wp execOp
  simp only [ho, hx, hy, Instr.storeAt, Instr.sureAddr, Sem.run_bind, Sem.run_pure, Result.andThen_ok, hl]
  exact hK
/-- The rows of power's. -/
structure PowM (w wr : World) (B D p : Nat) : Prop where
  below : Below w.heap.size w wr
  lo : w.heap.size = B
  lt : B < D
  r0 : wr.heap[B]? = some (.cells (wideA (digs 4 0)) 102 (0, 0))
  r1 : wr.heap[D]? = some (.cells (wideA (digs 4 p)) 102 (0, 0))
theorem PowM.step {w wr w' : World} {B D p : Nat} (h : PowM w wr B D p) (hb : Below wr.heap.size wr w') : PowM w w' B D p :=
  ⟨h.below.trans (hb.mono h.below.size), h.lo, h.lt, block_below' hb h.r0, block_below' hb h.r1⟩
theorem PowM.set {w wr : World} {B D p : Nat} (h : PowM w wr B D p) (q : Nat) : PowM w (wr.setRow D (wideA (digs 4 q))) B D q :=
  ⟨below_setRow h.below (by have := h.lo; have := h.lt; omega) _, h.lo, h.lt, (setRow_other _ _ _ _ (by have := h.lt; omega)).trans h.r0, setRow_heap _ _ _ _ _ _ h.r1⟩
theorem PowM.drew {w wr : World} {B D p : Nat} (h : PowM w wr B D p) : PowM w wr.drew B D p := ⟨h.below.drew, h.lo, h.lt, h.r0, h.r1⟩
set_option maxRecDepth 100000 in
set_option maxHeartbeats 1000000 in
theorem power_any (n t : Nat) (hn : n < 18446744073709551616) (ht : t ≤ 3) (w : World) :
    Calls Try.prog 63 #[V64 n, .int .i64 t] w fun e w' => e = .returned (wideN (n ^ t)) ∧ Below w.heap.size w w' := by
  have hpow : ∀ k, k ≤ 3 → n ^ k < 18446744073709551616 ^ 4 ∧ n ^ k * n < 18446744073709551616 ^ 4 := fun k hk => by
    have h1 : n ^ k ≤ 18446744073709551616 ^ k := Nat.pow_le_pow_left (by omega) k
    have h2 : (18446744073709551616 : Nat) ^ k ≤ 18446744073709551616 ^ 3 := Nat.pow_le_pow_right (by omega) hk
    have h3 : n ^ k * n ≤ 18446744073709551616 ^ 3 * 18446744073709551615 := Nat.mul_le_mul (by omega) (by omega)
    omega
  have HP := Lib.hid hpow
  have HN := Lib.hid hn
  clear hpow hn
  unfold V64
  obtain ⟨A, hA⟩ : ∃ A, A = w.alloc (.cells (wideA (digs 4 0)) 102) := ⟨_, rfl⟩
  have hbA : Below w.heap.size w A := by rw [hA]; exact (Below.refl _ _).alloc (Nat.le_refl _) _
  have hzA : A.heap[w.heap.size]? = some (.cells (wideA (digs 4 0)) 102 (0, 0)) := by rw [hA]; exact heap_alloc_new _ _
  have HA := Lib.hid hA
  have HBA := Lib.hid hbA
  have HZA := Lib.hid hzA
  clear hA hbA hzA
  go_enter Try.func63, Try.ntmps63
  go_wp2_with fail
  change Calls Try.prog 64 #[V64 1] (w.alloc (.cells (wideA (digs 4 0)) 102)) _
  rw [← HA.out]
  refine (ofN_any 1 (by omega) A).mono ?_
  rintro e A1 ⟨rfl, hb1⟩
  have HB1 := Lib.hid (HBA.out.trans (hb1.mono HBA.out.size))
  have HZ1 := Lib.hid (block_below' hb1 HZA.out)
  clear hb1 HA HBA HZA
  unfold wideN
  go_wp2_with ((with_reducible refine wpList_store_row ?_ 102 (.tmp 5) (.tmp 7) ?_ A1.heap.size (wideA (digs 4 1)) ?_ ?_ 102 _ (heap_alloc_new A1 _) ?_ ?_ ?_ ?_);  (next => rfl); (next => rfl); (next => rfl); (next => rfl); (next => exact info102 1); (next => rfl); (next => exact all_wide _); rw [World.setRow_alloc_new])
  have HM : Hid (PowM w (A1.alloc (.cells (wideA (digs 4 1)) 102)) w.heap.size A1.heap.size (n ^ 0)) :=
    Lib.hid ⟨HB1.out.alloc HB1.out.size _, rfl, (Array.getElem?_eq_some_iff.1 HZ1.out).1, (heap_alloc_old _ _ (Array.getElem?_eq_some_iff.1 HZ1.out).1).trans HZ1.out, heap_alloc_new _ _⟩
  clear HB1 HZ1
  obtain ⟨B, hB⟩ : ∃ B, B = w.heap.size := ⟨_, rfl⟩
  obtain ⟨D, hD⟩ : ∃ D, D = A1.heap.size := ⟨_, rfl⟩
  rw [← hB, ← hD] at HM
  rw [← hB, ← hD]
  clear hB hD
  generalize A1.alloc (.cells (wideA (digs 4 1)) 102) = W2 at *
  go_loopw [6] (fun i wr => ∃ k : Nat, k ≤ t ∧ i = .int .i64 k ∧ PowM w wr B D (n ^ k)) (fun i _ => t - (intOf i).toNat)
  case atStart => exact ⟨0, by omega, rfl, HM.out⟩
  case round =>
    obtain ⟨k, hk, rfl, hm⟩ := hrel
    have HM2 := Lib.hid hm
    clear hm HM
    by_cases hlt : k < t
    · have hkt : (k : Int) < t := by omega
      go_wp2_with fail
      obtain ⟨P, hP⟩ : ∃ P, P = n ^ k := ⟨_, rfl⟩
      have hpb := (HP.out k (by omega)).1
      have hpb2 := (HP.out k (by omega)).2
      rw [← hP] at HM2 hpb hpb2
      have hq : P * n = n ^ (k + 1) := by rw [hP, Nat.pow_succ]
      have HQ := Lib.hid hq
      have HPB := Lib.hid hpb
      have HPB2 := Lib.hid hpb2
      have HNB : Hid (n < 18446744073709551616 ^ 4) := Lib.hid (by have := HN.out; omega)
      clear hP hpb hpb2 hq
      refine wp_region_any (by kernel_rfl) ?_
      change wpAny _ _ _ _ _ _ _ (World.drew _)
      refine wpAny_take (i := 1) (v := ?_) rfl (by kernel_rfl) (by kernel_rfl) (by kernel_rfl) (fun _ _ _ h => h) (Or.inl ⟨by rfl, ?_⟩) ?_
      rotate_left
      · intro w; go_simp; rfl
      rotate_left
      refine wpAny_ready (rs := [0, 2]) (by kernel_rfl) (by simp) ?_
      refine AllReady.cons rfl (fun K hK => ?_) (AllReady.cons rfl (fun K hK => ?_) AllReady.nil)
      · refine step_load rfl 102 (.tmp 5) rfl rfl (load_wide HM2.out.drew.r1) ?_
        refine hK _ _ ?_; clear hK K
        refine wpAny_ready (rs := [2]) (by kernel_rfl) (by simp) ?_
        refine AllReady.cons rfl (fun K hK => ?_) AllReady.nil
        go_simp
        change Calls Try.prog 64 #[V64 n] _ _
        refine (ofN_any n HN.out _).mono ?_
        rintro _ w1 ⟨rfl, hb1⟩
        have HM3 := Lib.hid (HM2.out.drew.step hb1)
        clear hb1
        refine hK _ _ ?_; clear hK K
        refine wpAny_ready (rs := [3]) (by kernel_rfl) (by simp) ?_
        refine AllReady.cons rfl (fun K hK => ?_) AllReady.nil
        go_simp
        change Calls Try.prog 106 #[wideN P, wideN n] _ _
        refine (wmul_any P n HPB.out HNB.out _).mono ?_
        rintro _ w2 ⟨rfl, hb2⟩
        rw [Nat.mod_eq_of_lt HPB2.out]
        have HM4 := Lib.hid (HM3.out.step hb2)
        clear hb2
        refine hK _ _ ?_; clear hK K
        refine wpAny_take (i := 4) (v := ?_) rfl (by kernel_rfl) (by kernel_rfl) (by kernel_rfl) (fun _ _ _ h => h) (Or.inl ⟨by rfl, ?_⟩) ?_
        rotate_left
        · intro w; go_simp; rfl
        rotate_left
        refine wpAny_take (i := 5) (v := ?_) rfl (by kernel_rfl) (by kernel_rfl) (by kernel_rfl) (fun _ _ _ h => h) (Or.inl ⟨by rfl, ?_⟩) ?_
        rotate_left
        · intro w; go_simp; rfl
        rotate_left
        refine wpAny_take (i := 6) (v := ?_) rfl (by kernel_rfl) (by kernel_rfl) (by kernel_rfl) (fun _ _ _ h => h) (Or.inl ⟨by rfl, ?_⟩) ?_
        rotate_left
        · intro w; go_simp; rfl
        rotate_left
        refine wpAny_ready (rs := [7]) (by kernel_rfl) (by simp) ?_
        refine AllReady.cons rfl (fun K hK => ?_) AllReady.nil
        refine step_store rfl 102 (.tmp 5) (.tmp 18) rfl rfl rfl (store_wide HM4.out.r1) ?_
        refine hK _ _ ?_; clear hK K
        refine wpAny_done (by kernel_rfl) ?_ _
        go_wp2_with fail
        refine ⟨⟨k + 1, by omega, by go_num, ?_⟩, by simp [intOf]; omega⟩
        rw [← HQ.out]
        exact HM4.out.set _
      · go_simp
        change Calls Try.prog 64 #[V64 n] _ _
        refine (ofN_any n HN.out _).mono ?_
        rintro _ w1 ⟨rfl, hb1⟩
        have HM3 := Lib.hid (HM2.out.drew.step hb1)
        clear hb1
        refine hK _ _ ?_; clear hK K
        refine wpAny_ready (rs := [0]) (by kernel_rfl) (by simp) ?_
        refine AllReady.cons rfl (fun K hK => ?_) AllReady.nil
        refine step_load rfl 102 (.tmp 5) rfl rfl (load_wide HM3.out.r1) ?_
        refine hK _ _ ?_; clear hK K
        refine wpAny_ready (rs := [3]) (by kernel_rfl) (by simp) ?_
        refine AllReady.cons rfl (fun K hK => ?_) AllReady.nil
        go_simp
        change Calls Try.prog 106 #[wideN P, wideN n] _ _
        refine (wmul_any P n HPB.out HNB.out _).mono ?_
        rintro _ w2 ⟨rfl, hb2⟩
        rw [Nat.mod_eq_of_lt HPB2.out]
        have HM4 := Lib.hid (HM3.out.step hb2)
        clear hb2
        refine hK _ _ ?_; clear hK K
        refine wpAny_take (i := 4) (v := ?_) rfl (by kernel_rfl) (by kernel_rfl) (by kernel_rfl) (fun _ _ _ h => h) (Or.inl ⟨by rfl, ?_⟩) ?_
        rotate_left
        · intro w; go_simp; rfl
        rotate_left
        refine wpAny_take (i := 5) (v := ?_) rfl (by kernel_rfl) (by kernel_rfl) (by kernel_rfl) (fun _ _ _ h => h) (Or.inl ⟨by rfl, ?_⟩) ?_
        rotate_left
        · intro w; go_simp; rfl
        rotate_left
        refine wpAny_take (i := 6) (v := ?_) rfl (by kernel_rfl) (by kernel_rfl) (by kernel_rfl) (fun _ _ _ h => h) (Or.inl ⟨by rfl, ?_⟩) ?_
        rotate_left
        · intro w; go_simp; rfl
        rotate_left
        refine wpAny_ready (rs := [7]) (by kernel_rfl) (by simp) ?_
        refine AllReady.cons rfl (fun K hK => ?_) AllReady.nil
        refine step_store rfl 102 (.tmp 5) (.tmp 18) rfl rfl rfl (store_wide HM4.out.r1) ?_
        refine hK _ _ ?_; clear hK K
        refine wpAny_done (by kernel_rfl) ?_ _
        go_wp2_with fail
        refine ⟨⟨k + 1, by omega, by go_num, ?_⟩, by simp [intOf]; omega⟩
        rw [← HQ.out]
        exact HM4.out.set _
    · have hk4 : k = t := by omega
      subst hk4
      go_wp2_with (first | ((with_reducible refine wpList_load_row ?_ 102 (.tmp 5) ?_ D ?_ 102 _ (0, 0) _ HM2.out.r1 Try.underlying102 ?_ (info102 _) ?_); (next => rfl); (next => rfl); (next => rfl); (next => rfl)) | ((with_reducible refine wpList_store_row ?_ 102 (.tmp 4) (.tmp 20) ?_ B (wideA (digs 4 (n ^ k))) ?_ ?_ 102 _ HM2.out.r0 (info102 _) ?_ (all_wide _) ?_);  (next => rfl); (next => rfl); (next => rfl); (next => rfl); (next => rw [size_wideA, size_wideA, length_digs, length_digs])))
      exact bodyPost_ret (results_cell_row rfl _ _ B 102 (wideA (digs 4 (n ^ k))) (0, 0) _ rfl (setRow_heap _ _ _ _ _ _ HM2.out.r0) Try.underlying102 rfl (info102 _)) rfl ⟨rfl, below_setRow HM2.out.below (by rw [HM2.out.lo]; exact Nat.le_refl _) _⟩
end Go.Proofs.Ytdecbimklomdjaa
