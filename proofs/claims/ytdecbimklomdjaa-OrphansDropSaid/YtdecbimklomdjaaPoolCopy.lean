/- A pool's Copy. -/
import Derived.Test.YtdecbimklomdjaaPutRoom
namespace Go.Proofs.Ytdecbimklomdjaa
open Go Go.RowKit Go.Shelf
set_option maxRecDepth 100000 in
theorem copy_none (w : World) (x : Value) (h : Calls Try.prog 93 #[x] w fun e w' => e = .returned (.bool true) ∧ w = w') :
    Calls Try.prog 51 #[x] w fun e w' => e = .returned (.pointer none) ∧ w = w' := by
  go_enter Try.func51, Try.ntmps51
  go_wp2_with fail
  refine h.mono ?_
  rintro e w' ⟨rfl, rfl⟩
  go_wp2_with fail
  go_ret
  exact ⟨rfl, rfl⟩
theorem cap_run {P : Program} {o : Oper} {ρ : Operand → Value} {w w' : World} {ty : TypeId} {x : Operand} {v u : Value} (ho : o.op = .call { callee := .builtin .cap, args := #[x], argTypes := #[ty] }) (hx : ρ x = v) (h : (Builtin.cap_ #[ty] o.type #[v]).run P w = .ok u w') :
    (execOp ρ o).run P w = .ok (.value u) w' := by
  simp only [execOp, ho, resolve, invoke, builtin, List.map_toArray, List.map_cons, List.map_nil, hx, Sem.run_bind, Sem.run_pure, Result.andThen_ok, h]
theorem made_run {P : Program} {o : Oper} {ρ : Operand → Value} {w w' : World} {ty : TypeId} {x : Operand} {v u : Value} (ho : o.op = .makeChan ty x) (hx : ρ x = v) (h : (Instr.makeChan ty v).run P w = .ok u w') : (execOp ρ o).run P w = .ok (.value u) w' := by
  simp only [execOp, ho, hx, Sem.run_bind, Sem.run_pure, Result.andThen_ok, h]
set_option maxRecDepth 100000 in
theorem make88 (w : World) (n : Nat) (h : n ≤ 50) : (Instr.makeChan 88 (.int .i64 (n : Int))).run Try.prog w = .ok (.chan (some w.heap.size)) (w.alloc (.chan n #[] false 0 0 false)) := by
  obtain ⟨i, hi, hb⟩ : ∃ i, Try.prog.info? 140 = some i ∧ i.bytes = 0 := ⟨_, rfl, rfl⟩
  exact Conc.run_makeChan Try.underlying88 hi .i64 n (by omega) (by rw [hb]; omega)
theorem send_run {o : Oper} {ρ : Operand → Value} {w : World} {x y : Operand} {c : Nat} {u : Value} (ho : o.op = .send x y) (hx : ρ x = .chan (some c)) (hy : ρ y = u) : (execOp ρ o).run Try.prog w = .ok (.comm #[Conc.scase c u (.tuple #[])] true .send) w := by
  unfold execOp
  simp only [ho, hx, hy, Sem.run_pure]
  rfl
set_option maxRecDepth 100000 in
set_option maxHeartbeats 2000000 in
theorem copy_live (p c : Nat) (v : Value) (most : Nat) (l : List (List UInt8 × Nat)) (w : World) (hp : PoolAt w p c v most l) :
    Calls Try.prog 51 #[.pointer (some ⟨p, 0, none⟩)] w fun e w' => ∃ p2 c2 v2, e = .returned (.pointer (some ⟨p2, 0, none⟩)) ∧ PoolAt w' p2 c2 v2 most l ∧ w.heap.size ≤ p2 ∧ w.heap.size ≤ c2 ∧ (∀ k, v2.ownBlock = some k → w.heap.size ≤ k) ∧ Below w.heap.size w w' := by
  have hn := none_live w p c v most l hp
  have HP := Lib.hid hp
  have HM := Lib.hid hp.most
  have HLEN : Hid (∀ (W : World) (t : TypeId), (Builtin.len_ #[89] t #[v]).run Try.prog W = .ok (.int .i64 (l.length : Int)) W) := Lib.hid (by obtain ⟨xa, xc, hv⟩ := own_slice hp.own; rw [hv]; exact fun W t => len89 W _ _ _ t)
  clear hp
  go_enter Try.func51, Try.ntmps51
  go_wp2_with fail
  refine hn.mono ?_
  rintro e w' ⟨rfl, rfl⟩
  clear hn
  go_upto_region 3 with (fail)
  refine wp_region_held_drew (S := (fun w' => PoolAt w' p c v most l)) (by kernel_rfl) HP.out.drew (fun hS => ?_)
  obtain ⟨W0, hW0⟩ : ∃ W0, W0 = w.drew := ⟨_, rfl⟩
  have HB0 : Hid (Below w.heap.size w W0) := Lib.hid (hW0 ▸ (Below.refl _ _).drew)
  rw [← hW0] at hS ⊢
  clear hW0
  try (conv => lhs; change (Act.mk #[_,_,_,_,_,_,_,_,_,_,_,_,_,_,_,_,_,_,_,_,_,_,_,_,_,_,_,_,_,_,_,_,_] _))
  refine wpAnyH_take (i := 0) (v := ?_) rfl (by kernel_rfl) (by kernel_rfl) (by kernel_rfl) (fun _ _ _ h => h) (held_pure rfl ?_) hS ?_
  rotate_left
  · intro w; go_simp; all_goals rfl
  rotate_left
  refine wpAnyH_take (i := 1) (v := ?_) rfl (by kernel_rfl) (by kernel_rfl) (by kernel_rfl) (fun _ _ _ h => h) (held_pure rfl ?_) hS ?_
  rotate_left
  · intro w; go_simp; all_goals rfl
  rotate_left
  refine wpAnyH_take (i := 2) (v := ?_) rfl (by kernel_rfl) (by kernel_rfl) (by kernel_rfl) (fun _ _ _ h => h) (held_pure rfl ?_) hS ?_
  rotate_left
  · intro w; go_simp; all_goals rfl
  rotate_left
  refine wpAnyH_take (i := 3) (v := .chan (some c)) rfl (by kernel_rfl) (by kernel_rfl) (by kernel_rfl) (fun _ _ _ h => h) (held_load rfl 88 (.tmp 8) rfl (A := ⟨p, 0, none⟩) rfl (fun w hw => load88 hw.cells.1)) hS ?_
  try (conv => lhs; change (Act.mk #[_,_,_,_,_,_,_,_,_,_,_,_,_,_,_,_,_,_,_,_,_,_,_,_,_,_,_,_,_,_,_,_,_] _))
  refine wpAnyH_take (i := 4) (v := .int .i64 (most : Int)) rfl (by kernel_rfl) (by kernel_rfl) (by kernel_rfl) (fun _ _ _ h => h) (.inl ⟨by rfl, fun w hw => cap_run (x := .tmp 9) rfl rfl (hw.cap _)⟩) hS ?_
  try (conv => lhs; change (Act.mk #[_,_,_,_,_,_,_,_,_,_,_,_,_,_,_,_,_,_,_,_,_,_,_,_,_,_,_,_,_,_,_,_,_] _))
  refine wpAnyH_take (i := 6) (v := ?_) rfl (by kernel_rfl) (by kernel_rfl) (by kernel_rfl) (fun _ _ _ h => h) (held_pure rfl ?_) hS ?_
  rotate_left
  · intro w; go_simp; all_goals rfl
  rotate_left
  refine wpAnyH_take (i := 7) (v := ?_) rfl (by kernel_rfl) (by kernel_rfl) (by kernel_rfl) (fun _ _ _ h => h) (held_pure rfl ?_) hS ?_
  rotate_left
  · intro w; go_simp; all_goals rfl
  rotate_left
  refine wpAnyH_take (i := 8) (v := ?_) rfl (by kernel_rfl) (by kernel_rfl) (by kernel_rfl) (fun _ _ _ h => h) (held_pure rfl ?_) hS ?_
  rotate_left
  · intro w; go_simp; all_goals rfl
  rotate_left
  refine wpAnyH_take (i := 9) (v := v) rfl (by kernel_rfl) (by kernel_rfl) (by kernel_rfl) (fun _ _ _ h => h) (held_load rfl 89 (.tmp 14) rfl (A := ⟨p, 1, none⟩) rfl (fun w hw => load89 hw.cells.2)) hS ?_
  try (conv => lhs; change (Act.mk #[_,_,_,_,_,_,_,_,_,_,_,_,_,_,_,_,_,_,_,_,_,_,_,_,_,_,_,_,_,_,_,_,_] _))
  refine wpAnyH_ready (rs := [5, 10]) (by kernel_rfl) (by simp) ?_
  refine AllReadyH.cons rfl (fun K hK => ?_) (AllReadyH.cons rfl (fun K hK => ?_) AllReadyH.nil)
  · refine step_val rfl (.chan (some W0.heap.size)) (made_run (x := .tmp 10) rfl rfl (make88 W0 most HM.out)) ?_
    obtain ⟨W1, hWn⟩ : ∃ W', W' = W0.alloc (.chan most #[] false 0 0 false) := ⟨_, rfl⟩
    obtain ⟨c2, hc2⟩ : ∃ c2, c2 = W0.heap.size := ⟨_, rfl⟩
    have hb : Below W0.heap.size W0 W1 := hWn ▸ (Below.refl _ _).alloc (Nat.le_refl _) _
    have HC2 : Hid (W1.heap[c2]? = some (.chan most #[] false 0 0 false)) := Lib.hid (by rw [hWn, hc2]; exact heap_alloc_new _ _)
    rw [← hWn, ← hc2]
    have HCL : Hid (w.heap.size ≤ c2) := Lib.hid (by rw [hc2]; exact HB0.out.size)
    have HB0 := Lib.hid (HB0.out.trans (hb.mono HB0.out.size))
    have hSn := hS.below hb
    clear hb hWn hc2
    refine hK.out _ _ hSn (fun hS => ?_); clear hK K
    try (conv => lhs; change (Act.mk #[_,_,_,_,_,_,_,_,_,_,_,_,_,_,_,_,_,_,_,_,_,_,_,_,_,_,_,_,_,_,_,_,_] _))
    clear hSn
    refine wpAnyH_ready (rs := [10]) (by kernel_rfl) (by simp) ?_
    refine AllReadyH.cons rfl (fun K hK => ?_) AllReadyH.nil
    go_simp
    refine (clone1_any v l.length (items l) 0 W1 hS.own (Nat.le_trans hS.fits hS.most) (one_items l)).mono ?_
    rintro e W2 ⟨v2, rfl, hown, hb⟩
    have HV2L : Hid (w.heap.size ≤ W1.heap.size) := Lib.hid HB0.out.size
    have HOWN : Hid (W2.ownsRow w.heap.size 139 101 v2 l.length (items l)) := Lib.hid (own_of_block hown (fun _ _ => rfl) HB0.out.size)
    have HB0 := Lib.hid (HB0.out.trans (hb.mono HB0.out.size))
    have hSn := hS.below hb
    have HC2 := Lib.hid (block_below' hb HC2.out)
    clear hb hown
    refine hK.out _ _ hSn (fun hS => ?_); clear hK K
    try (conv => lhs; change (Act.mk #[_,_,_,_,_,_,_,_,_,_,_,_,_,_,_,_,_,_,_,_,_,_,_,_,_,_,_,_,_,_,_,_,_] _))
    clear hSn
    obtain ⟨va, vc, rfl⟩ := own_slice HOWN.out
    refine wpAnyH_take (i := 11) (v := .agg #[.chan (some c2), .slice va l.length vc]) rfl (by kernel_rfl) (by kernel_rfl) (by kernel_rfl) (fun _ _ _ h => h) (held_pure rfl (fun w => built_run (x := .tmp 11) (y := .tmp 16) rfl rfl rfl (by kernel_rfl))) hS ?_
    try (conv => lhs; change (Act.mk #[_,_,_,_,_,_,_,_,_,_,_,_,_,_,_,_,_,_,_,_,_,_,_,_,_,_,_,_,_,_,_,_,_] _))
    refine wpAnyH_ready (rs := [12]) (by kernel_rfl) (by simp) ?_
    refine AllReadyH.cons rfl (fun K hK => ?_) AllReadyH.nil
    refine step_val (w' := W2.alloc (.cells #[.chan (some c2), .slice va l.length vc] 91)) rfl (.pointer (some ⟨W2.heap.size, 0, none⟩)) (by kernel_rfl) ?_
    obtain ⟨W3, hWn⟩ : ∃ W', W' = W2.alloc (.cells #[.chan (some c2), .slice va l.length vc] 91) := ⟨_, rfl⟩
    obtain ⟨p2, hp2⟩ : ∃ p2, p2 = W2.heap.size := ⟨_, rfl⟩
    have hb : Below W2.heap.size W2 W3 := hWn ▸ (Below.refl _ _).alloc (Nat.le_refl _) _
    have HR2 : Hid (W3.heap[p2]? = some (.cells #[.chan (some c2), .slice va l.length vc] 91 (0, 0))) := Lib.hid (by rw [hWn, hp2]; exact heap_alloc_new _ _)
    rw [← hWn, ← hp2]
    have HPL : Hid (w.heap.size ≤ p2) := Lib.hid (by rw [hp2]; exact HB0.out.size)
    have HB0 := Lib.hid (HB0.out.trans (hb.mono HB0.out.size))
    have HC2 := Lib.hid (block_below' hb HC2.out)
    have HOWN := Lib.hid (HOWN.out.kept (grownBy_of_below hb none) (own_some _))
    have hSn := hS.below hb
    clear hb hWn hp2
    refine hK.out _ _ hSn (fun hS => ?_); clear hK K
    try (conv => lhs; change (Act.mk #[_,_,_,_,_,_,_,_,_,_,_,_,_,_,_,_,_,_,_,_,_,_,_,_,_,_,_,_,_,_,_,_,_] _))
    clear hSn
    refine wpAnyH_take (i := 13) (v := ?_) rfl (by kernel_rfl) (by kernel_rfl) (by kernel_rfl) (fun _ _ _ h => h) (held_pure rfl ?_) hS ?_
    rotate_left
    · intro w; go_simp; all_goals rfl
    rotate_left
    refine wpAnyH_done (by kernel_rfl) ?_ _
    have hS3 := Lib.hid hS
    clear hS
    go_upto_region 4 with (fail)
    refine wp_region_lit ?_
    refine wpList_one (v := .pointer (some ⟨p, 0, none⟩)) (w' := W3) rfl (by kernel_rfl) ?_
    try (conv => lhs; change (Act.mk #[_,_,_,_,_,_,_,_,_,_,_,_,_,_,_,_,_,_,_,_,_,_,_,_,_,_,_,_,_,_,_,_,_] _))
    refine wpList_one (v := .pointer (some ⟨p, 0, none⟩)) (w' := W3) rfl (by kernel_rfl) ?_
    try (conv => lhs; change (Act.mk #[_,_,_,_,_,_,_,_,_,_,_,_,_,_,_,_,_,_,_,_,_,_,_,_,_,_,_,_,_,_,_,_,_] _))
    refine wpList_one (v := .pointer (some ⟨p, 1, none⟩)) (w' := W3) rfl (by kernel_rfl) ?_
    try (conv => lhs; change (Act.mk #[_,_,_,_,_,_,_,_,_,_,_,_,_,_,_,_,_,_,_,_,_,_,_,_,_,_,_,_,_,_,_,_,_] _))
    refine wpList_get rfl 89 (.tmp 21) rfl (A := ⟨p, 1, none⟩) rfl (load89 hS3.out.cells.2) ?_
    try (conv => lhs; change (Act.mk #[_,_,_,_,_,_,_,_,_,_,_,_,_,_,_,_,_,_,_,_,_,_,_,_,_,_,_,_,_,_,_,_,_] _))
    refine wpList_one (v := .int .i64 (l.length : Int)) (w' := W3) rfl (len_run (x := .tmp 22) rfl rfl (HLEN.out W3 _)) ?_
    try (conv => lhs; change (Act.mk #[_,_,_,_,_,_,_,_,_,_,_,_,_,_,_,_,_,_,_,_,_,_,_,_,_,_,_,_,_,_,_,_,_] _))
    refine wpList_one (v := .int .i64 0) (w' := W3) rfl (by kernel_rfl) ?_
    try (conv => lhs; change (Act.mk #[_,_,_,_,_,_,_,_,_,_,_,_,_,_,_,_,_,_,_,_,_,_,_,_,_,_,_,_,_,_,_,_,_] _))
    have HL50 : l.length ≤ 50 := Nat.le_trans HP.out.fits HP.out.most
    have HFT := HP.out.fits
    go_wp2_with fail
    go_loopw [24] (fun i wr => ∃ k : Nat, k ≤ l.length ∧ i = .int .i64 (k : Int) ∧ Below w.heap.size w wr ∧ wr.heap[p2]? = some (.cells #[.chan (some c2), .slice va l.length vc] 91 (0, 0)) ∧ (∃ s r, wr.heap[c2]? = some (.chan most (Array.replicate k (.agg #[])) false s r false)) ∧ wr.ownsRow w.heap.size 139 101 (.slice va l.length vc) l.length (items l)) (fun i _ => l.length - (intOf i).toNat)
    case atStart => exact ⟨0, by omega, rfl, HB0.out, HR2.out, ⟨0, 0, HC2.out⟩, HOWN.out⟩
    case round =>
      obtain ⟨k, hk, rfl, hbe, hrow, ⟨s, r, hch⟩, how⟩ := hrel
      have HBE := Lib.hid hbe
      have HRW := Lib.hid hrow
      have HCH := Lib.hid hch
      have HOW := Lib.hid how
      clear hbe hrow hch how HB0 HR2 HC2 HOWN hS3
      by_cases hlt : k < l.length
      · go_upto_region 6 with (fail)
        refine wp_region_from ?_
        change RegFrom _ _ _ [0, 1, 2, 3, 4, 5] _ _
        refine RegFrom.value (v := .pointer (some ⟨p2, 0, none⟩)) (w' := wr) rfl rfl (by kernel_rfl) ?_
        try (conv => lhs; change (Act.mk #[_,_,_,_,_,_,_,_,_,_,_,_,_,_,_,_,_,_,_,_,_,_,_,_,_,_,_,_,_,_,_,_,_] _))
        refine RegFrom.value (v := .pointer (some ⟨p2, 0, none⟩)) (w' := wr) rfl rfl (by kernel_rfl) ?_
        try (conv => lhs; change (Act.mk #[_,_,_,_,_,_,_,_,_,_,_,_,_,_,_,_,_,_,_,_,_,_,_,_,_,_,_,_,_,_,_,_,_] _))
        refine RegFrom.value (v := .pointer (some ⟨p2, 0, none⟩)) (w' := wr) rfl rfl (by kernel_rfl) ?_
        try (conv => lhs; change (Act.mk #[_,_,_,_,_,_,_,_,_,_,_,_,_,_,_,_,_,_,_,_,_,_,_,_,_,_,_,_,_,_,_,_,_] _))
        refine RegFrom.value (v := .chan (some c2)) (w' := wr) rfl rfl (load_run (x := .tmp 28) rfl rfl (load88 (cell_of_row _ _ _ _ _ _ HRW.out))) ?_
        try (conv => lhs; change (Act.mk #[_,_,_,_,_,_,_,_,_,_,_,_,_,_,_,_,_,_,_,_,_,_,_,_,_,_,_,_,_,_,_,_,_] _))
        refine RegFrom.value (v := .agg #[]) (w' := wr) rfl rfl (by kernel_rfl) ?_
        try (conv => lhs; change (Act.mk #[_,_,_,_,_,_,_,_,_,_,_,_,_,_,_,_,_,_,_,_,_,_,_,_,_,_,_,_,_,_,_,_,_] _))
        refine RegFrom.send rfl rfl (send_run (x := .tmp 29) (y := .tmp 30) (c := c2) (u := .agg #[]) rfl rfl rfl) HCH.out (by simp; omega) ?_
        try (conv => lhs; change (Act.mk #[_,_,_,_,_,_,_,_,_,_,_,_,_,_,_,_,_,_,_,_,_,_,_,_,_,_,_,_,_,_,_,_,_] _))
        obtain ⟨wr', hwr'⟩ : ∃ W', W' = wr.setChan c2 most ((Array.replicate k (.agg #[])).push (.agg #[])) false (s + 1) r false := ⟨_, rfl⟩
        rw [← hwr']
        have hch' : wr'.heap[c2]? = some (.chan most (Array.replicate (k + 1) (.agg #[])) false (s + 1) r false) := by
          rw [hwr', Conc.heap_setChan _ _ _ _ _ _ _ _ (Array.getElem?_eq_some_iff.1 HCH.out).1, Array.replicate_succ]
        have hk' : ∀ j, j ≠ c2 → wr'.heap[j]? = wr.heap[j]? := fun j hj => hwr' ▸ setChan_ne _ _ _ _ _ _ _ hj
        have hrow' : wr'.heap[p2]? = _ := (hk' p2 (by rintro rfl; have h := HCH.out; rw [HRW.out] at h; cases h)).trans HRW.out
        have how' : wr'.ownsRow w.heap.size 139 101 (.slice va l.length vc) l.length (items l) := own_of_block HOW.out (fun j hj => hk' j (fun e => own_off HOW.out HCH.out (fun _ _ h => by cases h) (by rw [← e]; exact hj))) (Nat.le_refl _)
        have hbe' : Below w.heap.size w wr' := hwr' ▸ Conc.below_setChan HBE.out HCL.out _ _ _ _ _ _
        have HCH' := Lib.hid hch'
        have HRW' := Lib.hid hrow'
        have HOW' := Lib.hid how'
        have HBE' := Lib.hid hbe'
        clear hch' hk' hrow' how' hbe' hwr'
        refine RegFrom.plain ?_
        change Exit.inBlock _ (Exit.then _ _) Exit.normal _ _
        go_wp2_with fail
        go_roundw
        case rel => exact ⟨k + 1, by omega, by go_num, HBE'.out, HRW'.out, ⟨s + 1, r, HCH'.out⟩, HOW'.out⟩
        case measure => simp [intOf]; omega
      · have hke : k = l.length := by omega
        subst hke
        go_wp2_with fail
        go_ret
        exact ⟨p2, c2, .slice va l.length vc, rfl, ⟨HRW.out, ⟨s, r, HCH.out⟩, own_of_block HOW.out (fun _ _ => rfl) (Nat.zero_le _), own_off HOW.out HRW.out (fun _ _ h => by cases h), own_off HOW.out HCH.out (fun _ _ h => by cases h), HP.out.lens, HP.out.fits, HP.out.most⟩, HPL.out, HCL.out, fun j hj => (HOW.out.lt j hj).1, HBE.out⟩
  · go_simp
    refine (clone1_any v l.length (items l) 0 W0 hS.own (Nat.le_trans hS.fits hS.most) (one_items l)).mono ?_
    rintro e W1 ⟨v2, rfl, hown, hb⟩
    have HV2L : Hid (w.heap.size ≤ W0.heap.size) := Lib.hid HB0.out.size
    have HOWN : Hid (W1.ownsRow w.heap.size 139 101 v2 l.length (items l)) := Lib.hid (own_of_block hown (fun _ _ => rfl) HB0.out.size)
    have HB0 := Lib.hid (HB0.out.trans (hb.mono HB0.out.size))
    have hSn := hS.below hb
    clear hb hown
    refine hK.out _ _ hSn (fun hS => ?_); clear hK K
    try (conv => lhs; change (Act.mk #[_,_,_,_,_,_,_,_,_,_,_,_,_,_,_,_,_,_,_,_,_,_,_,_,_,_,_,_,_,_,_,_,_] _))
    clear hSn
    refine wpAnyH_ready (rs := [5]) (by kernel_rfl) (by simp) ?_
    refine AllReadyH.cons rfl (fun K hK => ?_) AllReadyH.nil
    refine step_val rfl (.chan (some W1.heap.size)) (made_run (x := .tmp 10) rfl rfl (make88 W1 most HM.out)) ?_
    obtain ⟨W2, hWn⟩ : ∃ W', W' = W1.alloc (.chan most #[] false 0 0 false) := ⟨_, rfl⟩
    obtain ⟨c2, hc2⟩ : ∃ c2, c2 = W1.heap.size := ⟨_, rfl⟩
    have hb : Below W1.heap.size W1 W2 := hWn ▸ (Below.refl _ _).alloc (Nat.le_refl _) _
    have HC2 : Hid (W2.heap[c2]? = some (.chan most #[] false 0 0 false)) := Lib.hid (by rw [hWn, hc2]; exact heap_alloc_new _ _)
    rw [← hWn, ← hc2]
    have HCL : Hid (w.heap.size ≤ c2) := Lib.hid (by rw [hc2]; exact HB0.out.size)
    have HB0 := Lib.hid (HB0.out.trans (hb.mono HB0.out.size))
    have hSn := hS.below hb
    have HOWN := Lib.hid (HOWN.out.kept (grownBy_of_below hb none) (own_some v2))
    clear hb hWn hc2
    refine hK.out _ _ hSn (fun hS => ?_); clear hK K
    try (conv => lhs; change (Act.mk #[_,_,_,_,_,_,_,_,_,_,_,_,_,_,_,_,_,_,_,_,_,_,_,_,_,_,_,_,_,_,_,_,_] _))
    clear hSn
    obtain ⟨va, vc, rfl⟩ := own_slice HOWN.out
    refine wpAnyH_take (i := 11) (v := .agg #[.chan (some c2), .slice va l.length vc]) rfl (by kernel_rfl) (by kernel_rfl) (by kernel_rfl) (fun _ _ _ h => h) (held_pure rfl (fun w => built_run (x := .tmp 11) (y := .tmp 16) rfl rfl rfl (by kernel_rfl))) hS ?_
    try (conv => lhs; change (Act.mk #[_,_,_,_,_,_,_,_,_,_,_,_,_,_,_,_,_,_,_,_,_,_,_,_,_,_,_,_,_,_,_,_,_] _))
    refine wpAnyH_ready (rs := [12]) (by kernel_rfl) (by simp) ?_
    refine AllReadyH.cons rfl (fun K hK => ?_) AllReadyH.nil
    refine step_val (w' := W2.alloc (.cells #[.chan (some c2), .slice va l.length vc] 91)) rfl (.pointer (some ⟨W2.heap.size, 0, none⟩)) (by kernel_rfl) ?_
    obtain ⟨W3, hWn⟩ : ∃ W', W' = W2.alloc (.cells #[.chan (some c2), .slice va l.length vc] 91) := ⟨_, rfl⟩
    obtain ⟨p2, hp2⟩ : ∃ p2, p2 = W2.heap.size := ⟨_, rfl⟩
    have hb : Below W2.heap.size W2 W3 := hWn ▸ (Below.refl _ _).alloc (Nat.le_refl _) _
    have HR2 : Hid (W3.heap[p2]? = some (.cells #[.chan (some c2), .slice va l.length vc] 91 (0, 0))) := Lib.hid (by rw [hWn, hp2]; exact heap_alloc_new _ _)
    rw [← hWn, ← hp2]
    have HPL : Hid (w.heap.size ≤ p2) := Lib.hid (by rw [hp2]; exact HB0.out.size)
    have HB0 := Lib.hid (HB0.out.trans (hb.mono HB0.out.size))
    have HC2 := Lib.hid (block_below' hb HC2.out)
    have HOWN := Lib.hid (HOWN.out.kept (grownBy_of_below hb none) (own_some _))
    have hSn := hS.below hb
    clear hb hWn hp2
    refine hK.out _ _ hSn (fun hS => ?_); clear hK K
    try (conv => lhs; change (Act.mk #[_,_,_,_,_,_,_,_,_,_,_,_,_,_,_,_,_,_,_,_,_,_,_,_,_,_,_,_,_,_,_,_,_] _))
    clear hSn
    refine wpAnyH_take (i := 13) (v := ?_) rfl (by kernel_rfl) (by kernel_rfl) (by kernel_rfl) (fun _ _ _ h => h) (held_pure rfl ?_) hS ?_
    rotate_left
    · intro w; go_simp; all_goals rfl
    rotate_left
    refine wpAnyH_done (by kernel_rfl) ?_ _
    have hS3 := Lib.hid hS
    clear hS
    go_upto_region 4 with (fail)
    refine wp_region_lit ?_
    refine wpList_one (v := .pointer (some ⟨p, 0, none⟩)) (w' := W3) rfl (by kernel_rfl) ?_
    try (conv => lhs; change (Act.mk #[_,_,_,_,_,_,_,_,_,_,_,_,_,_,_,_,_,_,_,_,_,_,_,_,_,_,_,_,_,_,_,_,_] _))
    refine wpList_one (v := .pointer (some ⟨p, 0, none⟩)) (w' := W3) rfl (by kernel_rfl) ?_
    try (conv => lhs; change (Act.mk #[_,_,_,_,_,_,_,_,_,_,_,_,_,_,_,_,_,_,_,_,_,_,_,_,_,_,_,_,_,_,_,_,_] _))
    refine wpList_one (v := .pointer (some ⟨p, 1, none⟩)) (w' := W3) rfl (by kernel_rfl) ?_
    try (conv => lhs; change (Act.mk #[_,_,_,_,_,_,_,_,_,_,_,_,_,_,_,_,_,_,_,_,_,_,_,_,_,_,_,_,_,_,_,_,_] _))
    refine wpList_get rfl 89 (.tmp 21) rfl (A := ⟨p, 1, none⟩) rfl (load89 hS3.out.cells.2) ?_
    try (conv => lhs; change (Act.mk #[_,_,_,_,_,_,_,_,_,_,_,_,_,_,_,_,_,_,_,_,_,_,_,_,_,_,_,_,_,_,_,_,_] _))
    refine wpList_one (v := .int .i64 (l.length : Int)) (w' := W3) rfl (len_run (x := .tmp 22) rfl rfl (HLEN.out W3 _)) ?_
    try (conv => lhs; change (Act.mk #[_,_,_,_,_,_,_,_,_,_,_,_,_,_,_,_,_,_,_,_,_,_,_,_,_,_,_,_,_,_,_,_,_] _))
    refine wpList_one (v := .int .i64 0) (w' := W3) rfl (by kernel_rfl) ?_
    try (conv => lhs; change (Act.mk #[_,_,_,_,_,_,_,_,_,_,_,_,_,_,_,_,_,_,_,_,_,_,_,_,_,_,_,_,_,_,_,_,_] _))
    have HL50 : l.length ≤ 50 := Nat.le_trans HP.out.fits HP.out.most
    have HFT := HP.out.fits
    go_wp2_with fail
    go_loopw [24] (fun i wr => ∃ k : Nat, k ≤ l.length ∧ i = .int .i64 (k : Int) ∧ Below w.heap.size w wr ∧ wr.heap[p2]? = some (.cells #[.chan (some c2), .slice va l.length vc] 91 (0, 0)) ∧ (∃ s r, wr.heap[c2]? = some (.chan most (Array.replicate k (.agg #[])) false s r false)) ∧ wr.ownsRow w.heap.size 139 101 (.slice va l.length vc) l.length (items l)) (fun i _ => l.length - (intOf i).toNat)
    case atStart => exact ⟨0, by omega, rfl, HB0.out, HR2.out, ⟨0, 0, HC2.out⟩, HOWN.out⟩
    case round =>
      obtain ⟨k, hk, rfl, hbe, hrow, ⟨s, r, hch⟩, how⟩ := hrel
      have HBE := Lib.hid hbe
      have HRW := Lib.hid hrow
      have HCH := Lib.hid hch
      have HOW := Lib.hid how
      clear hbe hrow hch how HB0 HR2 HC2 HOWN hS3
      by_cases hlt : k < l.length
      · go_upto_region 6 with (fail)
        refine wp_region_from ?_
        change RegFrom _ _ _ [0, 1, 2, 3, 4, 5] _ _
        refine RegFrom.value (v := .pointer (some ⟨p2, 0, none⟩)) (w' := wr) rfl rfl (by kernel_rfl) ?_
        try (conv => lhs; change (Act.mk #[_,_,_,_,_,_,_,_,_,_,_,_,_,_,_,_,_,_,_,_,_,_,_,_,_,_,_,_,_,_,_,_,_] _))
        refine RegFrom.value (v := .pointer (some ⟨p2, 0, none⟩)) (w' := wr) rfl rfl (by kernel_rfl) ?_
        try (conv => lhs; change (Act.mk #[_,_,_,_,_,_,_,_,_,_,_,_,_,_,_,_,_,_,_,_,_,_,_,_,_,_,_,_,_,_,_,_,_] _))
        refine RegFrom.value (v := .pointer (some ⟨p2, 0, none⟩)) (w' := wr) rfl rfl (by kernel_rfl) ?_
        try (conv => lhs; change (Act.mk #[_,_,_,_,_,_,_,_,_,_,_,_,_,_,_,_,_,_,_,_,_,_,_,_,_,_,_,_,_,_,_,_,_] _))
        refine RegFrom.value (v := .chan (some c2)) (w' := wr) rfl rfl (load_run (x := .tmp 28) rfl rfl (load88 (cell_of_row _ _ _ _ _ _ HRW.out))) ?_
        try (conv => lhs; change (Act.mk #[_,_,_,_,_,_,_,_,_,_,_,_,_,_,_,_,_,_,_,_,_,_,_,_,_,_,_,_,_,_,_,_,_] _))
        refine RegFrom.value (v := .agg #[]) (w' := wr) rfl rfl (by kernel_rfl) ?_
        try (conv => lhs; change (Act.mk #[_,_,_,_,_,_,_,_,_,_,_,_,_,_,_,_,_,_,_,_,_,_,_,_,_,_,_,_,_,_,_,_,_] _))
        refine RegFrom.send rfl rfl (send_run (x := .tmp 29) (y := .tmp 30) (c := c2) (u := .agg #[]) rfl rfl rfl) HCH.out (by simp; omega) ?_
        try (conv => lhs; change (Act.mk #[_,_,_,_,_,_,_,_,_,_,_,_,_,_,_,_,_,_,_,_,_,_,_,_,_,_,_,_,_,_,_,_,_] _))
        obtain ⟨wr', hwr'⟩ : ∃ W', W' = wr.setChan c2 most ((Array.replicate k (.agg #[])).push (.agg #[])) false (s + 1) r false := ⟨_, rfl⟩
        rw [← hwr']
        have hch' : wr'.heap[c2]? = some (.chan most (Array.replicate (k + 1) (.agg #[])) false (s + 1) r false) := by
          rw [hwr', Conc.heap_setChan _ _ _ _ _ _ _ _ (Array.getElem?_eq_some_iff.1 HCH.out).1, Array.replicate_succ]
        have hk' : ∀ j, j ≠ c2 → wr'.heap[j]? = wr.heap[j]? := fun j hj => hwr' ▸ setChan_ne _ _ _ _ _ _ _ hj
        have hrow' : wr'.heap[p2]? = _ := (hk' p2 (by rintro rfl; have h := HCH.out; rw [HRW.out] at h; cases h)).trans HRW.out
        have how' : wr'.ownsRow w.heap.size 139 101 (.slice va l.length vc) l.length (items l) := own_of_block HOW.out (fun j hj => hk' j (fun e => own_off HOW.out HCH.out (fun _ _ h => by cases h) (by rw [← e]; exact hj))) (Nat.le_refl _)
        have hbe' : Below w.heap.size w wr' := hwr' ▸ Conc.below_setChan HBE.out HCL.out _ _ _ _ _ _
        have HCH' := Lib.hid hch'
        have HRW' := Lib.hid hrow'
        have HOW' := Lib.hid how'
        have HBE' := Lib.hid hbe'
        clear hch' hk' hrow' how' hbe' hwr'
        refine RegFrom.plain ?_
        change Exit.inBlock _ (Exit.then _ _) Exit.normal _ _
        go_wp2_with fail
        go_roundw
        case rel => exact ⟨k + 1, by omega, by go_num, HBE'.out, HRW'.out, ⟨s + 1, r, HCH'.out⟩, HOW'.out⟩
        case measure => simp [intOf]; omega
      · have hke : k = l.length := by omega
        subst hke
        go_wp2_with fail
        go_ret
        exact ⟨p2, c2, .slice va l.length vc, rfl, ⟨HRW.out, ⟨s, r, HCH.out⟩, own_of_block HOW.out (fun _ _ => rfl) (Nat.zero_le _), own_off HOW.out HRW.out (fun _ _ h => by cases h), own_off HOW.out HCH.out (fun _ _ h => by cases h), HP.out.lens, HP.out.fits, HP.out.most⟩, HPL.out, HCL.out, fun j hj => (HOW.out.lt j hj).1, HBE.out⟩
end Go.Proofs.Ytdecbimklomdjaa
