/- purser/wide: Mul, its walk. -/
import Derived.Test.YtdecbimklomdjaaMulP
namespace Go.Proofs.Ytdecbimklomdjaa
open Go Go.RowKit Go.Shelf
theorem five_at (w : World) (A B C D E : Obj) : ∃ W1, ((((w.alloc A).alloc B).alloc C).alloc D).alloc E = W1 ∧ Below w.heap.size w W1 ∧ W1.heap[w.heap.size]? = some A ∧ W1.heap[w.heap.size + 1]? = some B ∧ W1.heap[w.heap.size + 2]? = some C ∧ W1.heap[w.heap.size + 3]? = some D ∧ W1.heap[w.heap.size + 4]? = some E ∧ W1.heap.size = w.heap.size + 5 := by
  refine ⟨_, rfl, (((((Below.refl _ _).alloc (Nat.le_refl _) _).alloc (by simp) _).alloc (by simp; omega) _).alloc (by simp; omega) _).alloc (by simp; omega) _, ?_, ?_, ?_, ?_, ?_, by simp⟩
  · rw [heap_alloc_old _ _ (by simp; omega), heap_alloc_old _ _ (by simp; omega), heap_alloc_old _ _ (by simp; omega), heap_alloc_old _ _ (by simp)]; exact heap_alloc_new _ _
  · rw [heap_alloc_old _ _ (by simp), heap_alloc_old _ _ (by simp), heap_alloc_old _ _ (by simp)]; have := heap_alloc_new (w.alloc A) B; simpa using this
  · rw [heap_alloc_old _ _ (by simp), heap_alloc_old _ _ (by simp)]; have := heap_alloc_new ((w.alloc A).alloc B) C; simpa using this
  · rw [heap_alloc_old _ _ (by simp)]; have := heap_alloc_new (((w.alloc A).alloc B).alloc C) D; simpa using this
  · have := heap_alloc_new ((((w.alloc A).alloc B).alloc C).alloc D) E; simpa using this
/-- copy, as one step of a region that draws its order. -/
theorem step_copy_to {P : Program} {ops : Array Oper} {o : Oper} {a : Act} {w : World} {K : Act → World → Prop} {Q : Exit → Act → World → Prop} {E : Prop} (hgd : o.guard = none) (d s : Operand) (dT sT : TypeId)
    (ho : o.op = .call { callee := .builtin .copy, args := #[d, s], argTypes := #[dT, sT] }) (vd vs : Value) (hd : a.eval d = vd) (hs : a.eval s = vs) {n : Value} {w' : World}
    (hr : (Builtin.copy_ #[dT, sT] o.type #[vd, vs]).run P w = .ok n w') (hK : K (a.put o.dst n) w') : if Region.wanted o (yielded ops a.tmps) = true then Oper.wp P o a w K Q else E := by
  rw [if_pos (show Region.wanted o (yielded ops a.tmps) = true by simp [Region.wanted, hgd])]
  unfold Oper.wp
  simp only [execOp, ho, resolve, invoke, builtin, List.map_toArray, List.map_cons, List.map_nil, hd, hs, Sem.run_bind, Sem.run_pure, Result.andThen_ok, hr]
  exact hK
theorem run_copy_nats (W : World) (g b o : Nat) (t t' : TypeId) (out l : List Nat) (hg : W.heap[g]? = some (.cells (wideA [0, 0, 0, 0]) t (0, 0))) (hb : W.heap[b]? = some (.cells (wideA out) t' (0, 0))) (hl : l.length = 4) (hlo : ∀ j, j < 4 → out[o + j]? = l[j]?) :
    (Builtin.copy_ #[181, 181] 3 #[.slice (some ⟨g, 0, none⟩) 4 4, .slice (some ⟨b, o, none⟩) 4 (8 - o)]).run Try.prog W = .ok (goInt 4) (W.setRow g (wideA l)) := by
  have h := run_copy_row (P := Try.prog) W 181 181 3 31 g 0 4 4 ⟨b, o, none⟩ 4 (8 - o) (wideA [0, 0, 0, 0]) t (l.map V64) Try.underlying181 (by kernel_rfl) hg (by rw [List.length_map, hl]; rfl)
    (fun j v hv => by
      have hadd : (⟨b, o, none⟩ : Addr).add j = ⟨b, o + j, none⟩ := by unfold Addr.add; split <;> simp_all
      have hj : j < l.length := by
        have := (List.getElem?_eq_some_iff.1 hv).1
        simpa using this
      rw [hadd, cell_of_row _ _ _ _ _ _ hb]
      unfold wideA
      rw [List.getElem?_toArray, List.getElem?_map, hlo j (by omega), ← List.getElem?_map]
      exact hv) (by rw [List.length_map, hl, size_wideA]; decide) (fun v hv => by obtain ⟨x, _, rfl⟩ := List.mem_map.1 hv; rfl)
  rw [List.length_map, hl] at h
  have e : ((wideA [0, 0, 0, 0]).toList.take 0 ++ l.map V64 ++ (wideA [0, 0, 0, 0]).toList.drop (0 + 4)).toArray = wideA l := by
    simp [wideA]
  rw [e] at h
  exact h
theorem results_rows2 {fn : Func} {p q : Tmp} {ty ty' : TypeId} {P : Program} (h : fn.results = #[.cell p ty, .cell q ty']) (tmps : Array Value) (w : World) {a b : Addr} {u v : Value} (hp : tmps.getD p undef = .pointer (some a)) (hq : tmps.getD q undef = .pointer (some b))
    (hu : (loadVar ty a).run P w = .ok u w) (hv : (loadVar ty' b).run P w = .ok v w) : (results fn tmps).run P w = .ok (.tuple #[u, v]) w := by
  have hp' : tmps[p]?.getD undef = .pointer (some a) := by simpa using hp
  have hq' : tmps[q]?.getD undef = .pointer (some b) := by simpa using hq
  simp [results, h, hp', hq', asAddr, hu, hv, Sem.run_bind, Result.andThen]
/-- The five rows of a product's. -/
structure MulM (w wr : World) (B B1 B2 B3 B4 : Nat) (la lb out : List Nat) : Prop where
  below : Below w.heap.size w wr
  lo : w.heap.size = B
  e1 : B1 = B + 1
  e2 : B2 = B + 2
  e3 : B3 = B + 3
  e4 : B4 = B + 4
  r0 : wr.heap[B]? = some (.cells (wideA la) 102 (0, 0))
  r1 : wr.heap[B1]? = some (.cells (wideA lb) 102 (0, 0))
  r2 : wr.heap[B2]? = some (.cells (wideA [0, 0, 0, 0]) 102 (0, 0))
  r3 : wr.heap[B3]? = some (.cells (wideA [0, 0, 0, 0]) 102 (0, 0))
  r4 : wr.heap[B4]? = some (.cells (wideA out) 179 (0, 0))
theorem MulM.set {w wr : World} {B B1 B2 B3 B4 : Nat} {la lb out : List Nat} (h : MulM w wr B B1 B2 B3 B4 la lb out) (k x : Nat) : MulM w (wr.setCell ⟨B4, k, none⟩ (V64 x)) B B1 B2 B3 B4 la lb (out.set k x) := by
  obtain ⟨h1, h2, h3, h4, h5, h6, r0, r1, r2, r3, r4⟩ := h
  refine ⟨h1.setCell (p := ⟨B4, k, none⟩) (by show w.heap.size ≤ B4; omega) _, h2, h3, h4, h5, h6, (heap_setCell_other _ _ _ _ (by show B ≠ B4; omega)).trans r0, (heap_setCell_other _ _ _ _ (by show B1 ≠ B4; omega)).trans r1, (heap_setCell_other _ _ _ _ (by show B2 ≠ B4; omega)).trans r2, (heap_setCell_other _ _ _ _ (by show B3 ≠ B4; omega)).trans r3, ?_⟩
  rw [← wideA_set]
  exact (heap_setCell_same _ _ _ _ _ _ r4).trans (by simp)
theorem MulM.drew {w wr : World} {B B1 B2 B3 B4 : Nat} {la lb out : List Nat} (h : MulM w wr B B1 B2 B3 B4 la lb out) (n : Nat) : MulM w (wr.drewN n) B B1 B2 B3 B4 la lb out :=
  { h with below := h.below.trans ((show Below wr.heap.size wr (wr.drewN n) from ⟨rfl, rfl, rfl, Nat.le_refl _, fun _ _ => rfl⟩).mono h.below.size) }
set_option maxRecDepth 100000 in
set_option maxHeartbeats 1000000 in
theorem wmul_at (la lb : List Nat) (hla : la.length = 4) (hlb : lb.length = 4) (hA : ∀ x ∈ la, x < 18446744073709551616) (hB : ∀ x ∈ lb, x < 18446744073709551616) (w : World) :
    Calls Try.prog 106 #[.agg (wideA la), .agg (wideA lb)] w fun e w' => e = .returned (.tuple #[wideN (val la * val lb % 18446744073709551616 ^ 4), wideN (val la * val lb / 18446744073709551616 ^ 4)]) ∧ Below w.heap.size w w' := by
  obtain ⟨W1, hW1, hb1, hn1, hn2, hn3, hn4, hn5, hsz⟩ := five_at w (.cells (wideA la) 102) (.cells (wideA lb) 102) (.cells (wideA [0, 0, 0, 0]) 102) (.cells (wideA [0, 0, 0, 0]) 102) (.cells (wideA [0, 0, 0, 0, 0, 0, 0, 0]) 179)
  obtain ⟨B, hBe⟩ : ∃ B, B = w.heap.size := ⟨_, rfl⟩
  obtain ⟨B1, h1⟩ : ∃ x, x = B + 1 := ⟨_, rfl⟩
  obtain ⟨B2, h2⟩ : ∃ x, x = B1 + 1 := ⟨_, rfl⟩
  obtain ⟨B3, h3⟩ : ∃ x, x = B2 + 1 := ⟨_, rfl⟩
  obtain ⟨B4, h4⟩ : ∃ x, x = B3 + 1 := ⟨_, rfl⟩
  have HM : Hid (MulM w W1 B B1 B2 B3 B4 la lb [0, 0, 0, 0, 0, 0, 0, 0]) := by
    obtain rfl : B1 = w.heap.size + 1 := by omega
    obtain rfl : B2 = w.heap.size + 2 := by omega
    obtain rfl : B3 = w.heap.size + 3 := by omega
    obtain rfl : B4 = w.heap.size + 4 := by omega
    subst hBe
    exact ⟨hb1, rfl, rfl, rfl, rfl, rfl, hn1, hn2, hn3, hn4, hn5⟩
  have HW1 := Lib.hid hW1
  have HA := Lib.hid hA
  have HB := Lib.hid hB
  have HLA := Lib.hid hla
  have HLB := Lib.hid hlb
  have H1 := Lib.hid h1
  have H2 := Lib.hid h2
  have H3 := Lib.hid h3
  have H4 := Lib.hid h4
  have HBE := Lib.hid hBe
  clear hA hB hW1 hla hlb hsz h1 h2 h3 h4 hBe hb1 hn1 hn2 hn3 hn4 hn5
  go_enter Try.func106, Try.ntmps106
  go_wp2_with fail
  change Code.wp Try.prog _ _ _ (((((w.alloc (.cells (wideA la) 102)).alloc (.cells (wideA lb) 102)).alloc (.cells (wideA [0, 0, 0, 0]) 102)).alloc (.cells (wideA [0, 0, 0, 0]) 102)).alloc (.cells (wideA [0, 0, 0, 0, 0, 0, 0, 0]) 179))
  rw [HW1.out, ← HBE.out, ← H1.out, ← H2.out, ← H3.out, ← H4.out]
  clear HW1 HBE H1 H2 H3 H4
  go_loopw [13] (fun i wr => ∃ (k : Nat) (out : List Nat), k ≤ 4 ∧ i = .int .i64 k ∧ MulOut la lb k out ∧ MulM w wr B B1 B2 B3 B4 la lb out) (fun i _ => 4 - (intOf i).toNat)
  case atStart => exact ⟨0, _, by omega, rfl, MulOut.start la lb, HM.out⟩
  case round =>
    obtain ⟨i, out, hi, rfl, hmo, hmm⟩ := hrel
    have HMO := Lib.hid hmo
    have HMM := Lib.hid hmm
    clear hmo hmm HM
    by_cases hlt : i < 4
    · have hi4 : (i : Int) < 4 := by omega
      go_wp2_with fail
      obtain ⟨wo, rfl⟩ : ∃ wo : World, wo = wr := ⟨_, rfl⟩
      go_loopw [8, 9, 10, 11, 12, 16] (fun c _ _ _ _ j wr => ∃ (k c' : Nat) (out : List Nat), k ≤ 4 ∧ j = .int .i64 k ∧ c = .int .u64 (c' : Int) ∧ MulIn la lb i k out c' ∧ MulM w wr B B1 B2 B3 B4 la lb out) (fun _ _ _ _ _ j _ => 4 - (intOf j).toNat)
      case atStart => exact ⟨0, 0, _, by omega, rfl, rfl, HMO.out.enter, HMM.out⟩
      case round =>
        obtain ⟨k, c, out, hk, rfl, rfl, hmi, hmm⟩ := hrel
        have HMI := Lib.hid hmi
        have HMM := Lib.hid hmm
        clear hmi hmm
        by_cases hlk : k < 4
        · have hk4 : (k : Int) < 4 := by omega
          obtain ⟨x, hx⟩ : ∃ x, x = la.getD i 0 := ⟨_, rfl⟩
          obtain ⟨y, hy⟩ : ∃ y, y = lb.getD k 0 := ⟨_, rfl⟩
          obtain ⟨s, hs⟩ : ∃ s, s = i + k := ⟨_, rfl⟩
          obtain ⟨o, ho⟩ : ∃ o, o = out.getD s 0 := ⟨_, rfl⟩
          have hcx : wr.cell? ⟨B, i, none⟩ = some (.int .u64 (x : Int)) := (cell_of_row _ _ _ _ _ _ HMM.out.r0).trans (by rw [hx]; exact wideA_get _ _ (by rw [HLA.out]; omega))
          have hcy : wr.cell? ⟨B1, k, none⟩ = some (.int .u64 (y : Int)) := (cell_of_row _ _ _ _ _ _ HMM.out.r1).trans (by rw [hy]; exact wideA_get _ _ (by rw [HLB.out]; omega))
          have hco : wr.cell? ⟨B4, s, none⟩ = some (.int .u64 (o : Int)) := (cell_of_row _ _ _ _ _ _ HMM.out.r4).trans (by rw [ho]; exact wideA_get _ _ (by rw [HMI.out.1]; omega))
          have hfo : wr.frozen? ⟨B4, s, none⟩ = false := frozen_of_row _ _ _ _ _ HMM.out.r4
          have hsum : (i : Int) + (k : Int) = (s : Int) := by omega
          have hs8 : s < 8 := by omega
          have hs8' : (s : Int) < 8 := by omega
          have hxb : x < 18446744073709551616 := by rw [hx]; exact getD_lt HA.out
          have hyb : y < 18446744073709551616 := by rw [hy]; exact getD_lt HB.out
          have hob : o < 18446744073709551616 := by rw [ho]; exact getD_lt HMI.out.2.1
          have hcb : c < 18446744073709551616 := HMI.out.2.2.1
          have hst := HMI.out.step HLB.out hlt hlk HA.out HB.out x y o hx hy (by rw [← hs]; exact ho)
          have hmul := fun w => (mul64_any x y hxb hyb w).mono (R' := fun e w' => e = .returned (.tuple #[V64 (x * y / 18446744073709551616), V64 (x * y % 18446744073709551616)]) ∧ w' = w) (fun _ _ h => ⟨h.1, h.2.symm⟩)
          rw [← hs] at hst
          have hstb := hst.2.2.1
          have HST := Lib.hid hst
          clear hst hx hy ho
          have HS := Lib.hid hs
          clear hs
          unfold V64 at hmul
          obtain ⟨top, htop⟩ : ∃ z, z = x * y / 18446744073709551616 := ⟨_, rfl⟩
          obtain ⟨bt, hbt⟩ : ∃ z, z = x * y % 18446744073709551616 := ⟨_, rfl⟩
          have had1 : ∀ w, (callFunc 130 #[.int .u64 (bt : Int), .int .u64 (o : Int), .int .u64 0]).run Try.prog w = .ok (.value (.tuple #[.int .u64 (((bt + o) % 18446744073709551616 : Nat) : Int), .int .u64 (((bt + o) / 18446744073709551616 : Nat) : Int)])) w := fun w => add64_run bt o 0 (by omega) w
          rw [← htop, ← hbt] at hstb
          simp only [← htop, ← hbt] at hmul
          obtain ⟨s1, hs1⟩ : ∃ z, z = (bt + o) % 18446744073709551616 := ⟨_, rfl⟩
          obtain ⟨c1, hc1⟩ : ∃ z, z = (bt + o) / 18446744073709551616 := ⟨_, rfl⟩
          simp only [← hs1, ← hc1] at had1
          rw [← hs1, ← hc1] at hstb
          have had2 : ∀ w, (callFunc 130 #[.int .u64 (s1 : Int), .int .u64 (c : Int), .int .u64 0]).run Try.prog w = .ok (.value (.tuple #[.int .u64 (((s1 + c) % 18446744073709551616 : Nat) : Int), .int .u64 (((s1 + c) / 18446744073709551616 : Nat) : Int)])) w := fun w => add64_run s1 c 0 (by omega) w
          obtain ⟨s2, hs2⟩ : ∃ z, z = (s1 + c) % 18446744073709551616 := ⟨_, rfl⟩
          obtain ⟨c2, hc2⟩ : ∃ z, z = (s1 + c) / 18446744073709551616 := ⟨_, rfl⟩
          simp only [← hs2, ← hc2] at had2
          rw [← hc2] at hstb
          have HEQ : Hid (s2 = ((x * y % 18446744073709551616 + o) % 18446744073709551616 + c) % 18446744073709551616 ∧ top + c1 + c2 = x * y / 18446744073709551616 + (x * y % 18446744073709551616 + o) / 18446744073709551616 + ((x * y % 18446744073709551616 + o) % 18446744073709551616 + c) / 18446744073709551616) := by
            rw [hs2, hc2, hs1, hc1, hbt, htop]; exact ⟨rfl, rfl⟩
          clear hs2 hc2 hs1 hc1 hbt htop hxb hyb hob hcb
          have hb1 : (top : Int) + c1 < 18446744073709551616 := by omega
          have hb2 : (top : Int) + c1 + c2 < 18446744073709551616 := by omega
          go_wp2_with fail
          go_quiet ((go_at_call 129; exact Calls.quiet_of_same (hmul _)))
          go_wp2_with fail
          refine ⟨⟨k + 1, top + c1 + c2, out.set s s2, by omega, by go_num, by simp, ?_, (HMM.out.drew nq).set s s2⟩, by simp [intOf]; omega⟩
          have := HST.out
          rw [← HEQ.out.1, ← HEQ.out.2] at this
          exact this
        · have hk4 : k = 4 := by omega
          subst hk4
          have hco : wr.cell? ⟨B4, i + 4, none⟩ = some (.int .u64 (out.getD (i + 4) 0 : Nat)) := (cell_of_row _ _ _ _ _ _ HMM.out.r4).trans (wideA_get _ _ (by rw [HMI.out.1]; omega))
          have hfo : wr.frozen? ⟨B4, i + 4, none⟩ = false := frozen_of_row _ _ _ _ _ HMM.out.r4
          go_wp2_with fail
          exact ⟨⟨i + 1, out.set (i + 4) c, by omega, by go_num, HMI.out.leave HLA.out HLB.out hlt, HMM.out.set _ _⟩, by simp [intOf]; omega⟩
    · have hi4 : i = 4 := by omega
      subst hi4
      obtain ⟨hd1, hd2⟩ := HMO.out.done HLA.out
      have ho8 := HMO.out.1
      obtain ⟨l1, hl1⟩ : ∃ l, l = out.take 4 := ⟨_, rfl⟩
      obtain ⟨l2, hl2⟩ : ∃ l, l = out.drop 4 := ⟨_, rfl⟩
      have h14 : l1.length = 4 := by rw [hl1, List.length_take]; omega
      have h24 : l2.length = 4 := by rw [hl2, List.length_drop]; omega
      have hc1 := fun (W : World) (h : W.heap = wr.heap) => run_copy_nats W B2 B4 0 102 179 out l1 (by rw [h]; exact HMM.out.r2) (by rw [h]; exact HMM.out.r4) h14 (fun j hj => by rw [Nat.zero_add, hl1, List.getElem?_take_of_lt hj])
      have hc2 := fun (W : World) (h3 : W.heap[B3]? = wr.heap[B3]?) (h4 : W.heap[B4]? = wr.heap[B4]?) => run_copy_nats W B3 B4 4 102 179 out l2 (by rw [h3]; exact HMM.out.r3) (by rw [h4]; exact HMM.out.r4) h24 (fun j hj => by rw [hl2, List.getElem?_drop])
      rw [← hl1] at hd1
      rw [← hl2] at hd2
      have HD1 := Lib.hid hd1
      have HD2 := Lib.hid hd2
      have HC1 := Lib.hid hc1
      have HC2 := Lib.hid hc2
      have H14 := Lib.hid h14
      have H24 := Lib.hid h24
      clear hd1 hd2 hc1 hc2 hl1 hl2 h14 h24 ho8
      go_wp2_with fail
      have hmix : Try.prog.follows Departure.mixedOrders = true := by kernel_rfl
      go_region_law (refine step_copy_to rfl (.tmp 61) (.tmp 62) 181 181 rfl _ _ rfl rfl (HC1.out _ rfl) ?_)
      go_wp2_with fail
      have hm := HMM.out
      have HX2 : Hid ((wr.drew.setRow B2 (wideA l1)).heap[B2]? = some (.cells (wideA l1) 102 (0, 0))) := Lib.hid (setRow_heap _ _ _ _ _ _ hm.r2)
      have HX3 : Hid ((wr.drew.setRow B2 (wideA l1)).heap[B3]? = wr.heap[B3]?) := Lib.hid (setRow_other wr.drew B2 B3 _ (by have := hm.e2; have := hm.e3; omega))
      have HX4 : Hid ((wr.drew.setRow B2 (wideA l1)).heap[B4]? = wr.heap[B4]?) := Lib.hid (setRow_other wr.drew B2 B4 _ (by have := hm.e2; have := hm.e4; omega))
      have HXB : Hid (Below w.heap.size w (wr.drew.setRow B2 (wideA l1))) := Lib.hid (below_setRow hm.below.drew (by have := hm.lo; have := hm.e2; omega) _)
      generalize wr.drew.setRow B2 (wideA l1) = V1 at *
      clear hm
      go_region_law (refine step_copy_to rfl (.tmp 64) (.tmp 65) 181 181 rfl _ _ rfl rfl (HC2.out _ HX3.out HX4.out) ?_)
      have HY2 : Hid ((V1.drew.setRow B3 (wideA l2)).heap[B2]? = some (.cells (wideA l1) 102 (0, 0))) := Lib.hid ((setRow_other V1.drew B3 B2 _ (by have := HMM.out.e2; have := HMM.out.e3; omega)).trans HX2.out)
      have HY3 : Hid ((V1.drew.setRow B3 (wideA l2)).heap[B3]? = some (.cells (wideA l2) 102 (0, 0))) := Lib.hid (setRow_heap _ _ _ _ _ _ (HX3.out.trans HMM.out.r3))
      have HYB : Hid (Below w.heap.size w (V1.drew.setRow B3 (wideA l2))) := Lib.hid (below_setRow HXB.out.drew (by have := HMM.out.lo; have := HMM.out.e3; omega) _)
      generalize V1.drew.setRow B3 (wideA l2) = V2 at *
      have HR1 : Hid ((wideA l1).size = 4) := Lib.hid (by rw [size_wideA, H14.out])
      have HR2 : Hid ((wideA l2).size = 4) := Lib.hid (by rw [size_wideA, H24.out])
      go_wp2_with (first | ((with_reducible refine wpList_load_row ?_ 102 (.tmp 4) ?_ B2 ?_ 102 _ (0, 0) _ HY2.out Try.underlying102 ?_ ?_ ?_); (next => rfl); (next => rfl); (next => rfl); (next => rfl); (next => rw [HR1.out]; kernel_rfl)) | ((with_reducible refine wpList_load_row ?_ 102 (.tmp 5) ?_ B3 ?_ 102 _ (0, 0) _ HY3.out Try.underlying102 ?_ ?_ ?_); (next => rfl); (next => rfl); (next => rfl); (next => rfl); (next => rw [HR2.out]; kernel_rfl)) | ((with_reducible refine wpList_store_row ?_ 102 (.tmp 4) (.tmp 67) ?_ B2 (wideA l1) ?_ ?_ 102 _ HY2.out ?_ ?_ ?_ ?_);  (next => rfl); (next => rfl); (next => rfl); (next => rfl); (next => rw [HR1.out]; kernel_rfl); (next => rw [HR1.out]); (next => exact all_wide _); rw [setRow_self _ _ _ _ _ HY2.out]) | ((with_reducible refine wpList_store_row ?_ 102 (.tmp 5) (.tmp 68) ?_ B3 (wideA l2) ?_ ?_ 102 _ HY3.out ?_ ?_ ?_ ?_);  (next => rfl); (next => rfl); (next => rfl); (next => rfl); (next => rw [HR2.out]; kernel_rfl); (next => rw [HR2.out]); (next => exact all_wide _); rw [setRow_self _ _ _ _ _ HY3.out]))
      have hrun1 : (loadVar 102 ⟨B2, 0, none⟩).run Try.prog V2 = .ok (.agg (wideA l1)) V2 := run_loadVar_row V2 B2 102 102 (wideA l1) (0, 0) _ HY2.out Try.underlying102 rfl (by rw [HR1.out]; kernel_rfl)
      have hrun2 : (loadVar 102 ⟨B3, 0, none⟩).run Try.prog V2 = .ok (.agg (wideA l2)) V2 := run_loadVar_row V2 B3 102 102 (wideA l2) (0, 0) _ HY3.out Try.underlying102 rfl (by rw [HR2.out]; kernel_rfl)
      exact bodyPost_ret (v := .tuple #[.agg (wideA l1), .agg (wideA l2)]) (results_rows2 (p := 4) (ty := 102) (q := 5) (ty' := 102) rfl _ _ rfl rfl hrun1 hrun2) rfl ⟨by rw [HD1.out, HD2.out]; rfl, HYB.out⟩
theorem wmul_any (a b : Nat) (ha : a < 18446744073709551616 ^ 4) (hb : b < 18446744073709551616 ^ 4) (w : World) :
    Calls Try.prog 106 #[wideN a, wideN b] w fun e w' => e = .returned (.tuple #[wideN (a * b % 18446744073709551616 ^ 4), wideN (a * b / 18446744073709551616 ^ 4)]) ∧ Below w.heap.size w w' := by
  have h := wmul_at (digs 4 a) (digs 4 b) (length_digs _ _) (length_digs _ _) (digs_lt 4 a) (digs_lt 4 b) w
  rw [val_digs 4 a ha, val_digs 4 b hb] at h
  exact h
end Go.Proofs.Ytdecbimklomdjaa
