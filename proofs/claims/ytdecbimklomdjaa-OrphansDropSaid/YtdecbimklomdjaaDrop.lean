/- A pool's Drop: what hangs on a hash is taken out. -/
import Derived.Test.YtdecbimklomdjaaDropL
namespace Go.Proofs.Ytdecbimklomdjaa
open Go Go.RowKit Go.Shelf
set_option maxRecDepth 100000 in
set_option maxHeartbeats 2000000 in
theorem drop_live (p c : Nat) (v : Value) (most : Nat) (l : List (List UInt8 × Nat)) (x : List UInt8) (hx : x.length = 32) (w : World) (hp : PoolAt w p c v most l) :
    Calls Try.prog 53 #[.pointer (some ⟨p, 0, none⟩), .agg (bytesA x)] w fun e w' => ∃ (S : List UInt8 → Bool) (u : Value), e = .returned u ∧ Hangs S x l ∧ w'.ownsRow w.heap.size 28 32 u (l.filter fun b => S b.1).length (hashCells (hashL (l.filter fun b => S b.1))) ∧ ∃ v', PoolAt w' p c v' most (l.filter fun b => !S b.1) ∧ Moved p c v w v' w' := by
  obtain ⟨W1, hW1⟩ : ∃ W1, W1 = w.alloc (.cells (bytesA x) 28) := ⟨_, rfl⟩
  obtain ⟨B, hB⟩ : ∃ B, B = w.heap.size := ⟨_, rfl⟩
  have hb1 : Below w.heap.size w W1 := hW1 ▸ (Below.refl _ _).alloc (Nat.le_refl _) _
  have hz1 : W1.heap.size = B + 1 := by rw [hW1, hB]; simp
  have HR : Hid (W1.heap[B]? = some (.cells (bytesA x) 28 (0, 0))) := Lib.hid (by rw [hW1, hB]; exact heap_alloc_new _ _)
  have HP := Lib.hid hp
  have HP1 := Lib.hid (hp.below hb1)
  have HX := Lib.hid hx
  have HB1 := Lib.hid hb1
  have HW1 := Lib.hid hW1
  have HBE := Lib.hid hB
  have HZ1 := Lib.hid hz1
  clear hx hb1 hW1 hB hp hz1
  go_enter Try.func53, Try.ntmps53
  go_upto_region 1 with (fail)
  change Code.wp Try.prog _ _ _ (w.alloc (.cells (bytesA x) 28))
  rw [← HW1.out, ← HBE.out]
  go_upto_region 3 with (go_at_call 93; refine (none_live W1 p c v most l HP1.out).mono ?_; rintro e w' ⟨rfl, rfl⟩)
  refine wp_region_lit ?_
  obtain ⟨W2, hW2⟩ : ∃ W2, W2 = W1.alloc (.map #[] 0) := ⟨_, rfl⟩
  have hz2 : W2.heap.size = B + 2 := by rw [hW2]; simp [HZ1.out]
  have hb12 : Below W1.heap.size W1 W2 := hW2 ▸ (Below.refl _ _).alloc (Nat.le_refl _) _
  have hm2 : W2.heap[B + 1]? = some (.map #[] 0) := by rw [hW2, ← HZ1.out]; exact heap_alloc_new _ _
  refine wpList_one (v := .map (some (B + 1))) (w' := W2) rfl (by rw [hW2, ← HZ1.out]; kernel_rfl) ?_
  try (conv => lhs; change (Act.mk #[_,_,_,_,_,_,_,_,_,_,_,_,_,_,_,_,_,_,_,_,_,_,_,_,_,_,_,_,_,_,_,_,_,_,_,_,_,_,_,_,_,_,_,_,_,_,_,_,_,_,_,_,_,_,_,_,_,_,_,_,_,_,_,_,_,_,_] _))
  have hr2 := block_below' hb12 HR.out
  have HM2 := Lib.hid (map_nil hm2)
  have HZ2 := Lib.hid hz2
  have HR2 := Lib.hid hr2
  have HB2 := Lib.hid (HB1.out.trans (hb12.mono HB1.out.size))
  clear hW2 hz2 hb12 hm2 hr2
  refine wpList_get rfl 28 (.tmp 3) rfl (A := ⟨B, 0, none⟩) rfl (load28 HR2.out HX.out) ?_
  try (conv => lhs; change (Act.mk #[_,_,_,_,_,_,_,_,_,_,_,_,_,_,_,_,_,_,_,_,_,_,_,_,_,_,_,_,_,_,_,_,_,_,_,_,_,_,_,_,_,_,_,_,_,_,_,_,_,_,_,_,_,_,_,_,_,_,_,_,_,_,_,_,_,_,_] _))
  refine wpList_skipped rfl (insert28_run (x := .tmp 12) (y := .tmp 13) (m := B + 1) (k := x) rfl rfl rfl HM2.out HX.out) ?_
  try (conv => lhs; change (Act.mk #[_,_,_,_,_,_,_,_,_,_,_,_,_,_,_,_,_,_,_,_,_,_,_,_,_,_,_,_,_,_,_,_,_,_,_,_,_,_,_,_,_,_,_,_,_,_,_,_,_,_,_,_,_,_,_,_,_,_,_,_,_,_,_,_,_,_,_] _))
  obtain ⟨W3, hW3⟩ : ∃ W3, W3 = W2.putObj (B + 1) (.map (entriesAt 0 [(x, 1)]).toArray 1) := ⟨_, rfl⟩
  have hm3 : MapAt W3 (B + 1) [(x, 1)] := hW3 ▸ HM2.out.put [(x, 1)] (by simpa using HX.out) (by simp)
  have hz3 : W3.heap.size = B + 2 := by rw [hW3]; simpa using HZ2.out
  have hb3 : Below w.heap.size w W3 := ⟨by rw [hW3]; exact HB2.out.os, by rw [hW3]; exact HB2.out.tape, by rw [hW3]; exact HB2.out.output, by rw [hz3]; have := HBE.out; omega, fun i hi => by rw [hW3]; exact (World.putObj_heap_other (by have := HBE.out; omega)).trans (HB2.out.block i hi)⟩
  rw [← hW3]
  clear hW3
  refine wpList_one (v := .map (some (B + 1))) (w' := W3) rfl (by kernel_rfl) ?_
  try (conv => lhs; change (Act.mk #[_,_,_,_,_,_,_,_,_,_,_,_,_,_,_,_,_,_,_,_,_,_,_,_,_,_,_,_,_,_,_,_,_,_,_,_,_,_,_,_,_,_,_,_,_,_,_,_,_,_,_,_,_,_,_,_,_,_,_,_,_,_,_,_,_,_,_] _))
  refine wpList_one (v := .pointer (some ⟨W3.heap.size, 0, none⟩)) (w' := W3.alloc (.cells #[.map none] 118)) rfl (by kernel_rfl) ?_
  try (conv => lhs; change (Act.mk #[_,_,_,_,_,_,_,_,_,_,_,_,_,_,_,_,_,_,_,_,_,_,_,_,_,_,_,_,_,_,_,_,_,_,_,_,_,_,_,_,_,_,_,_,_,_,_,_,_,_,_,_,_,_,_,_,_,_,_,_,_,_,_,_,_,_,_] _))
  have hc4 : (W3.alloc (.cells #[.map none] 118)).cell? ⟨W3.heap.size, 0, none⟩ = some (.map none) := cell_of_row _ _ _ _ _ _ (heap_alloc_new _ _)
  have hf4 : (W3.alloc (.cells #[.map none] 118)).frozen? ⟨W3.heap.size, 0, none⟩ = false := frozen_of_row _ _ _ _ _ (heap_alloc_new _ _)
  refine wpList_put rfl 118 (.tmp 5) (.tmp 14) rfl (A := ⟨W3.heap.size, 0, none⟩) (v := .map (some (B + 1))) rfl rfl (store118 hc4 hf4) ?_
  try (conv => lhs; change (Act.mk #[_,_,_,_,_,_,_,_,_,_,_,_,_,_,_,_,_,_,_,_,_,_,_,_,_,_,_,_,_,_,_,_,_,_,_,_,_,_,_,_,_,_,_,_,_,_,_,_,_,_,_,_,_,_,_,_,_,_,_,_,_,_,_,_,_,_,_] _))
  obtain ⟨W4, hW4⟩ : ∃ W4, W4 = (W3.alloc (.cells #[.map none] 118)).setCell ⟨W3.heap.size, 0, none⟩ (.map (some (B + 1))) := ⟨_, rfl⟩
  have hk4 : ∀ k, k ≠ B + 2 → W4.heap[k]? = (W3.alloc (.cells #[.map none] 118)).heap[k]? := fun k hk => hW4 ▸ heap_setCell_other _ _ _ _ (by rw [hz3]; exact hk)
  have hv4 : W4.heap[B + 2]? = some (.cells #[.map (some (B + 1))] 118 (0, 0)) := by
    rw [hW4, ← hz3]; exact (heap_setCell_same _ _ _ _ _ _ (heap_alloc_new _ _)).trans rfl
  have hz4 : W4.heap.size = B + 3 := by rw [hW4]; simp [hz3]
  have hm4 : MapAt W4 (B + 1) [(x, 1)] := hm3.of_block ((hk4 _ (by omega)).trans (heap_alloc_lt (by rw [hz3]; omega)))
  have hb4 : Below w.heap.size w W4 := by
    refine ⟨by rw [hW4]; exact hb3.os, by rw [hW4]; exact hb3.tape, by rw [hW4]; exact hb3.output, by rw [hz4]; have := HBE.out; omega, fun i hi => ?_⟩
    have := HBE.out
    exact (hk4 i (by omega)).trans ((heap_alloc_lt (by rw [hz3]; omega)).trans (hb3.block i hi))
  rw [← hW4, hz3]
  have HM4 := Lib.hid hm4
  have HV4 := Lib.hid hv4
  have HZ4 := Lib.hid hz4
  have HB4 := Lib.hid hb4
  have HP4 := Lib.hid (HP.out.below hb4)
  clear hW4 hk4 hm4 hv4 hz4 hb4 hc4 hf4 hm3 hz3 hb3
  go_upto_region 5 with (fail)
  have hfind := find_any p c v most l 100 #[.pointer (some ⟨B + 2, 0, none⟩)] (moreL [(x, 1)]) (enters_of Try.func100 (by kernel_rfl) rfl) W4 HP4.out
    (fun prev n hm W hb => drop1_any (B + 1) (B + 2) [(x, 1)] prev n (HP4.out.lens _ hm).1 W (block_below' hb HV4.out) (HM4.out.below hb))
  have HFD := Lib.hid hfind
  clear hfind
  refine wp_region_lit ?_
  refine wpList_one (v := .pointer (some ⟨p, 0, none⟩)) (w' := W4) rfl (by kernel_rfl) ?_
  try (conv => lhs; change (Act.mk #[_,_,_,_,_,_,_,_,_,_,_,_,_,_,_,_,_,_,_,_,_,_,_,_,_,_,_,_,_,_,_,_,_,_,_,_,_,_,_,_,_,_,_,_,_,_,_,_,_,_,_,_,_,_,_,_,_,_,_,_,_,_,_,_,_,_,_] _))
  refine wpList_one (v := .func (.func 100) #[] #[.pointer (some ⟨B + 2, 0, none⟩)]) (w' := W4) rfl (by kernel_rfl) ?_
  try (conv => lhs; change (Act.mk #[_,_,_,_,_,_,_,_,_,_,_,_,_,_,_,_,_,_,_,_,_,_,_,_,_,_,_,_,_,_,_,_,_,_,_,_,_,_,_,_,_,_,_,_,_,_,_,_,_,_,_,_,_,_,_,_,_,_,_,_,_,_,_,_,_,_,_] _))
  refine wpList_call rfl (f := 97) (args := #[.pointer (some ⟨p, 0, none⟩), .func (.func 100) #[] #[.pointer (some ⟨B + 2, 0, none⟩)]]) (by kernel_rfl) (HFD.out.mono ?_)
  rintro e W5 ⟨rfl, hb5⟩
  refine ⟨_, rfl, ?_⟩
  try (conv => lhs; change (Act.mk #[_,_,_,_,_,_,_,_,_,_,_,_,_,_,_,_,_,_,_,_,_,_,_,_,_,_,_,_,_,_,_,_,_,_,_,_,_,_,_,_,_,_,_,_,_,_,_,_,_,_,_,_,_,_,_,_,_,_,_,_,_,_,_,_,_,_,_] _))
  have HM5 := Lib.hid (HM4.out.below hb5)
  have HV5 := Lib.hid (block_below' hb5 HV4.out)
  have HZ5 := Lib.hid (show B + 3 ≤ W5.heap.size from HZ4.out ▸ hb5.size)
  have HB5 := Lib.hid (HB4.out.trans (hb5.mono HB4.out.size))
  clear hb5 HFD HM4 HV4 HZ4 HB4 HP4 HB2 HR2 HZ2 HM2
  go_wp2_with fail
  go_loopw [7] (fun t wr => ∃ kv, t = .int .i64 (firstAt (moreL kv) l) ∧ MapAt wr (B + 1) kv ∧ wr.heap[B + 2]? = some (.cells #[.map (some (B + 1))] 118 (0, 0)) ∧ B + 3 ≤ wr.heap.size ∧ Below w.heap.size w wr ∧ HangM kv x l) (fun _ wr => l.length + 1 - sizeM wr (B + 1))
  case atStart => exact ⟨_, rfl, HM5.out, HV5.out, HZ5.out, HB5.out, hang_start x l⟩
  case round =>
    clear HM5 HV5 HZ5 HB5
    obtain ⟨kv, rfl, hm, hv, hz, hb, hk⟩ := hrel
    have HM := Lib.hid hm
    have HV := Lib.hid hv
    have HZ := Lib.hid hz
    have HB := Lib.hid hb
    have HK := Lib.hid hk
    have HPr := Lib.hid (HP.out.below hb)
    clear hm hv hz hb hk
    by_cases hneg : firstAt (moreL kv) l < 0
    · have HD := Lib.hid (hang_done HK.out (firstAt_missD hneg))
      go_upto_region 6 with (fail)
      refine wp_region_lit ?_
      refine wpList_one (w' := wr) rfl (move_run (x := .tmp 7) rfl rfl) ?_
      try (conv => lhs; change (Act.mk #[_,_,_,_,_,_,_,_,_,_,_,_,_,_,_,_,_,_,_,_,_,_,_,_,_,_,_,_,_,_,_,_,_,_,_,_,_,_,_,_,_,_,_,_,_,_,_,_,_,_,_,_,_,_,_,_,_,_,_,_,_,_,_,_,_,_,_] _))
      refine wpList_one (w' := wr) rfl (geq_run (x := .tmp 19) (z := firstAt (moreL kv) l) rfl rfl) ?_
      try (conv => lhs; change (Act.mk #[_,_,_,_,_,_,_,_,_,_,_,_,_,_,_,_,_,_,_,_,_,_,_,_,_,_,_,_,_,_,_,_,_,_,_,_,_,_,_,_,_,_,_,_,_,_,_,_,_,_,_,_,_,_,_,_,_,_,_,_,_,_,_,_,_,_,_] _))
      rw [decide_eq_false (by omega : ¬ 0 ≤ firstAt (moreL kv) l)]
      go_wp2_with fail
      obtain ⟨Wd, rfl⟩ : ∃ Wd, Wd = wr := ⟨_, rfl⟩
      obtain ⟨S, hSd⟩ : ∃ S : List UInt8 → Bool, S = fun y => decide (0 < valAt kv y) := ⟨_, rfl⟩
      have HSD := Lib.hid hSd
      have HG : Hid (Hangs S x l) := Lib.hid (by rw [HSD.out]; exact HD.out)
      have hpB : p < B := by have := (Array.getElem?_eq_some_iff.1 HP.out.row).1; have := HBE.out; omega
      have hcB : c < B := by obtain ⟨s, r, hch⟩ := HP.out.ch; have := (Array.getElem?_eq_some_iff.1 hch).1; have := HBE.out; omega
      have hvB : ∀ k, v.ownBlock = some k → k < B := fun k hk => by have := (HP.out.own.lt k hk).2; have := HBE.out; omega
      have HPB := Lib.hid hpB
      have HCB := Lib.hid hcB
      have HVB := Lib.hid hvB
      have HL50 := Lib.hid (Nat.le_trans HP.out.fits HP.out.most)
      have HWr := Lib.hid (show Wd.heap.size = Wd.heap.size from rfl)
      clear hSd HD hneg hpB hcB hvB
      go_loopw [8, 9] (fun u t wr => ∃ (j : Nat) (v' : Value), j ≤ l.length ∧ PoolAt wr p c v' most ((l.take j).filter (fun b => !S b.1) ++ l.drop j) ∧ Moved p c v Wd v' wr ∧ t = .int .i64 (((l.take j).filter (fun b => !S b.1)).length : Int) ∧ wr.ownsRow Wd.heap.size 28 32 u ((l.take j).filter (fun b => S b.1)).length (hashCells (hashL ((l.take j).filter (fun b => S b.1))))) (fun u t _ => l.length - ((intOf t).toNat + lenV u))
      case atStart =>
        refine ⟨0, v, Nat.zero_le _, ?_, .of_below (Below.refl _ _), rfl, ?_⟩
        · simpa using HPr.out
        · simpa [hashL, hashCells] using World.ownsRow_nil Wd Wd.heap.size 28 32
      case round =>
        obtain ⟨j, v', hj, hp, hm, rfl, hu⟩ := hrel
        obtain ⟨A, hA⟩ : ∃ A, A = (l.take j).filter (fun b => !S b.1) := ⟨_, rfl⟩
        obtain ⟨C, hC⟩ : ∃ C, C = (l.take j).filter (fun b => S b.1) := ⟨_, rfl⟩
        have hAC : C.length + A.length = j := by rw [hA, hC, filt_len, List.length_take]; omega
        rw [← hA] at hp ⊢
        rw [← hC] at hu
        obtain ⟨ua, uc, hus⟩ := own_len hu
        obtain ⟨va, vc, hvs⟩ := own_slice hp.own
        have hz := hm.size
        have hne : ∀ k, B ≤ k → k < Wd.heap.size → wr.heap[k]? = Wd.heap[k]? := fun k h1 h2 => hm.block k h2 (by have := HPB.out; omega) (by have := HCB.out; omega) (fun e => by have := HVB.out k e; omega)
        have HMM := Lib.hid (HM.out.of_block (hne (B + 1) (by omega) (by have := HZ.out; omega)))
        have HVV := Lib.hid ((hne (B + 2) (by omega) (by have := HZ.out; omega)).trans HV.out)
        have HQ := Lib.hid hp
        have HMV := Lib.hid hm
        have HU := Lib.hid hu
        have HJ := Lib.hid hj
        have HA := Lib.hid hA
        have HC := Lib.hid hC
        have HAC := Lib.hid hAC
        have HUS := Lib.hid hus
        have hlen : (A ++ l.drop j).length = A.length + (l.length - j) := by rw [List.length_append, List.length_drop]
        have HLEN := Lib.hid hlen
        clear hp hm hu hj hA hC hAC hz hne hus hlen
        subst hvs
        go_upto_region 11 with (fail)
        refine wp_region_lit ?_
        refine wpList_one (v := .int .i64 (A.length : Int)) (w' := wr) rfl (by kernel_rfl) ?_
        try (conv => lhs; change (Act.mk #[_,_,_,_,_,_,_,_,_,_,_,_,_,_,_,_,_,_,_,_,_,_,_,_,_,_,_,_,_,_,_,_,_,_,_,_,_,_,_,_,_,_,_,_,_,_,_,_,_,_,_,_,_,_,_,_,_,_,_,_,_,_,_,_,_,_,_] _))
        refine wpList_one (v := .pointer (some ⟨p, 0, none⟩)) (w' := wr) rfl (by kernel_rfl) ?_
        try (conv => lhs; change (Act.mk #[_,_,_,_,_,_,_,_,_,_,_,_,_,_,_,_,_,_,_,_,_,_,_,_,_,_,_,_,_,_,_,_,_,_,_,_,_,_,_,_,_,_,_,_,_,_,_,_,_,_,_,_,_,_,_,_,_,_,_,_,_,_,_,_,_,_,_] _))
        refine wpList_one (v := .pointer (some ⟨p, 0, none⟩)) (w' := wr) rfl (by kernel_rfl) ?_
        try (conv => lhs; change (Act.mk #[_,_,_,_,_,_,_,_,_,_,_,_,_,_,_,_,_,_,_,_,_,_,_,_,_,_,_,_,_,_,_,_,_,_,_,_,_,_,_,_,_,_,_,_,_,_,_,_,_,_,_,_,_,_,_,_,_,_,_,_,_,_,_,_,_,_,_] _))
        refine wpList_one (v := .pointer (some ⟨p, 1, none⟩)) (w' := wr) rfl (by kernel_rfl) ?_
        try (conv => lhs; change (Act.mk #[_,_,_,_,_,_,_,_,_,_,_,_,_,_,_,_,_,_,_,_,_,_,_,_,_,_,_,_,_,_,_,_,_,_,_,_,_,_,_,_,_,_,_,_,_,_,_,_,_,_,_,_,_,_,_,_,_,_,_,_,_,_,_,_,_,_,_] _))
        refine wpList_get rfl 89 (.tmp 40) rfl (A := ⟨p, 1, none⟩) rfl (load89 HQ.out.cells.2) ?_
        try (conv => lhs; change (Act.mk #[_,_,_,_,_,_,_,_,_,_,_,_,_,_,_,_,_,_,_,_,_,_,_,_,_,_,_,_,_,_,_,_,_,_,_,_,_,_,_,_,_,_,_,_,_,_,_,_,_,_,_,_,_,_,_,_,_,_,_,_,_,_,_,_,_,_,_] _))
        refine wpList_one (w' := wr) rfl (len_run (x := .tmp 41) (v := .slice va (A ++ l.drop j).length vc) rfl rfl (len89 wr va (A ++ l.drop j).length vc _)) ?_
        try (conv => lhs; change (Act.mk #[_,_,_,_,_,_,_,_,_,_,_,_,_,_,_,_,_,_,_,_,_,_,_,_,_,_,_,_,_,_,_,_,_,_,_,_,_,_,_,_,_,_,_,_,_,_,_,_,_,_,_,_,_,_,_,_,_,_,_,_,_,_,_,_,_,_,_] _))
        refine wpList_one (w' := wr) rfl (lss2_run (x := .tmp 37) (y := .tmp 42) (a := A.length) (b := (A ++ l.drop j).length) rfl rfl rfl) ?_
        try (conv => lhs; change (Act.mk #[_,_,_,_,_,_,_,_,_,_,_,_,_,_,_,_,_,_,_,_,_,_,_,_,_,_,_,_,_,_,_,_,_,_,_,_,_,_,_,_,_,_,_,_,_,_,_,_,_,_,_,_,_,_,_,_,_,_,_,_,_,_,_,_,_,_,_] _))
        by_cases hlt : j < l.length
        · rw [decide_eq_true (by have := HLEN.out; omega : A.length < (A ++ l.drop j).length)]
          obtain ⟨⟨prev, n⟩, hi⟩ : ∃ b, l[j]? = some b := ⟨l[j], List.getElem?_eq_getElem hlt⟩
          obtain ⟨hat, her⟩ := at_mid A hi
          obtain ⟨g, cap, hv, _, _, _, hrange⟩ := HQ.out.at hat
          obtain ⟨_, _, _, hpl, _⟩ := items_split (l := _) HQ.out.lens hat
          injection hv with hva _ hvc
          subst hva
          subst hvc
          have HI := Lib.hid hi
          have HAT := Lib.hid hat
          have HER := Lib.hid her
          have HPL := Lib.hid hpl
          have HLT := Lib.hid (show A.length < (A ++ l.drop j).length by have := HLEN.out; omega)
          have HT1 := Lib.hid (filt_take (fun b => !S b.1) l j (prev, n) hi)
          have HT2 := Lib.hid (filt_take (fun b => S b.1) l j (prev, n) hi)
          have HJLT := Lib.hid hlt
          clear hi hat her hpl hlt hrange
          go_upto_region 12 with (fail)
          obtain ⟨W6, hW6⟩ : ∃ W6, W6 = wr.drew := ⟨_, rfl⟩
          have hb6 : Below wr.heap.size wr W6 := hW6 ▸ (Below.refl _ _).drew
          refine wp_region_held_drew (S := (fun w' => w' = W6)) (by kernel_rfl) hW6.symm (fun hS => ?_)
          rw [← hW6]
          replace hS : W6 = W6 := rfl
          have HQ6 := Lib.hid (HQ.out.below hb6)
          have HMV6 := Lib.hid (HMV.out.below hb6)
          have HMM6 := Lib.hid (HMM.out.below hb6)
          have HVV6 := Lib.hid (block_below' hb6 HVV.out)
          have HU6 := Lib.hid (HU.out.kept (grownBy_of_below hb6 none) (own_some _))
          have HR6 : Hid (W6.rangeAt g (A.length * 101) (oneL (hh prev n) prev n)) := Lib.hid (by obtain ⟨g', cap', hv', _, _, _, hr'⟩ := HQ6.out.at HAT.out; cases hv'; exact hr')
          clear hb6 hW6
          try (conv => lhs; change (Act.mk #[_,_,_,_,_,_,_,_,_,_,_,_,_,_,_,_,_,_,_,_,_,_,_,_,_,_,_,_,_,_,_,_,_,_,_,_,_,_,_,_,_,_,_,_,_,_,_,_,_,_,_,_,_,_,_,_,_,_,_,_,_,_,_,_,_,_,_] _))
          refine wpAnyH_take (i := 0) (v := .map (some (B + 1))) rfl (by kernel_rfl) (by kernel_rfl) (by kernel_rfl) (fun _ _ _ h => h) (held_load rfl 118 (.tmp 5) rfl (A := ⟨B + 2, 0, none⟩) rfl (fun w hw => by rw [hw]; exact load118 (cell_of_row _ _ _ _ _ _ HVV6.out))) hS ?_
          try (conv => lhs; change (Act.mk #[_,_,_,_,_,_,_,_,_,_,_,_,_,_,_,_,_,_,_,_,_,_,_,_,_,_,_,_,_,_,_,_,_,_,_,_,_,_,_,_,_,_,_,_,_,_,_,_,_,_,_,_,_,_,_,_,_,_,_,_,_,_,_,_,_,_,_] _))
          refine wpAnyH_take (i := 1) (v := .pointer (some ⟨p, 0, none⟩)) rfl (by kernel_rfl) (by kernel_rfl) (by kernel_rfl) (fun _ _ _ h => h) (held_pure rfl (fun w => by kernel_rfl)) hS ?_
          try (conv => lhs; change (Act.mk #[_,_,_,_,_,_,_,_,_,_,_,_,_,_,_,_,_,_,_,_,_,_,_,_,_,_,_,_,_,_,_,_,_,_,_,_,_,_,_,_,_,_,_,_,_,_,_,_,_,_,_,_,_,_,_,_,_,_,_,_,_,_,_,_,_,_,_] _))
          refine wpAnyH_take (i := 2) (v := .pointer (some ⟨p, 0, none⟩)) rfl (by kernel_rfl) (by kernel_rfl) (by kernel_rfl) (fun _ _ _ h => h) (held_pure rfl (fun w => by kernel_rfl)) hS ?_
          try (conv => lhs; change (Act.mk #[_,_,_,_,_,_,_,_,_,_,_,_,_,_,_,_,_,_,_,_,_,_,_,_,_,_,_,_,_,_,_,_,_,_,_,_,_,_,_,_,_,_,_,_,_,_,_,_,_,_,_,_,_,_,_,_,_,_,_,_,_,_,_,_,_,_,_] _))
          refine wpAnyH_take (i := 3) (v := .pointer (some ⟨p, 1, none⟩)) rfl (by kernel_rfl) (by kernel_rfl) (by kernel_rfl) (fun _ _ _ h => h) (held_pure rfl (fun w => by kernel_rfl)) hS ?_
          try (conv => lhs; change (Act.mk #[_,_,_,_,_,_,_,_,_,_,_,_,_,_,_,_,_,_,_,_,_,_,_,_,_,_,_,_,_,_,_,_,_,_,_,_,_,_,_,_,_,_,_,_,_,_,_,_,_,_,_,_,_,_,_,_,_,_,_,_,_,_,_,_,_,_,_] _))
          refine wpAnyH_take (i := 4) (v := .slice (some ⟨g, 0, none⟩) (A ++ l.drop j).length vc) rfl (by kernel_rfl) (by kernel_rfl) (by kernel_rfl) (fun _ _ _ h => h) (held_load rfl 89 (.tmp 47) rfl (A := ⟨p, 1, none⟩) rfl (fun w hw => by rw [hw]; exact load89 HQ6.out.cells.2)) hS ?_
          try (conv => lhs; change (Act.mk #[_,_,_,_,_,_,_,_,_,_,_,_,_,_,_,_,_,_,_,_,_,_,_,_,_,_,_,_,_,_,_,_,_,_,_,_,_,_,_,_,_,_,_,_,_,_,_,_,_,_,_,_,_,_,_,_,_,_,_,_,_,_,_,_,_,_,_] _))
          refine wpAnyH_take (i := 5) (v := .int .i64 (A.length : Int)) rfl (by kernel_rfl) (by kernel_rfl) (by kernel_rfl) (fun _ _ _ h => h) (held_pure rfl (fun w => by kernel_rfl)) hS ?_
          try (conv => lhs; change (Act.mk #[_,_,_,_,_,_,_,_,_,_,_,_,_,_,_,_,_,_,_,_,_,_,_,_,_,_,_,_,_,_,_,_,_,_,_,_,_,_,_,_,_,_,_,_,_,_,_,_,_,_,_,_,_,_,_,_,_,_,_,_,_,_,_,_,_,_,_] _))
          refine wpAnyH_take (i := 6) (v := .pointer (some ⟨g, A.length * 101, none⟩)) rfl (by kernel_rfl) (by kernel_rfl) (by kernel_rfl) (fun _ _ _ h => h) (held_pure rfl (fun w => index_run rfl (index89 w g (A ++ l.drop j).length vc A.length HLT.out))) hS ?_
          try (conv => lhs; change (Act.mk #[_,_,_,_,_,_,_,_,_,_,_,_,_,_,_,_,_,_,_,_,_,_,_,_,_,_,_,_,_,_,_,_,_,_,_,_,_,_,_,_,_,_,_,_,_,_,_,_,_,_,_,_,_,_,_,_,_,_,_,_,_,_,_,_,_,_,_] _))
          refine wpAnyH_take (i := 7) (v := .pointer (some ⟨g, A.length * 101 + 32, none⟩)) rfl (by kernel_rfl) (by kernel_rfl) (by kernel_rfl) (fun _ _ _ h => h) (held_pure rfl (fun w => by kernel_rfl)) hS ?_
          try (conv => lhs; change (Act.mk #[_,_,_,_,_,_,_,_,_,_,_,_,_,_,_,_,_,_,_,_,_,_,_,_,_,_,_,_,_,_,_,_,_,_,_,_,_,_,_,_,_,_,_,_,_,_,_,_,_,_,_,_,_,_,_,_,_,_,_,_,_,_,_,_,_,_,_] _))
          refine wpAnyH_take (i := 8) (v := .pointer (some ⟨g, A.length * 101 + 32, none⟩)) rfl (by kernel_rfl) (by kernel_rfl) (by kernel_rfl) (fun _ _ _ h => h) (held_pure rfl (fun w => by kernel_rfl)) hS ?_
          try (conv => lhs; change (Act.mk #[_,_,_,_,_,_,_,_,_,_,_,_,_,_,_,_,_,_,_,_,_,_,_,_,_,_,_,_,_,_,_,_,_,_,_,_,_,_,_,_,_,_,_,_,_,_,_,_,_,_,_,_,_,_,_,_,_,_,_,_,_,_,_,_,_,_,_] _))
          refine wpAnyH_take (i := 9) (v := .pointer (some ⟨g, A.length * 101 + 33, none⟩)) rfl (by kernel_rfl) (by kernel_rfl) (by kernel_rfl) (fun _ _ _ h => h) (held_pure rfl (fun w => by kernel_rfl)) hS ?_
          try (conv => lhs; change (Act.mk #[_,_,_,_,_,_,_,_,_,_,_,_,_,_,_,_,_,_,_,_,_,_,_,_,_,_,_,_,_,_,_,_,_,_,_,_,_,_,_,_,_,_,_,_,_,_,_,_,_,_,_,_,_,_,_,_,_,_,_,_,_,_,_,_,_,_,_] _))
          refine wpAnyH_take (i := 10) (v := .agg (bytesA prev)) rfl (by kernel_rfl) (by kernel_rfl) (by kernel_rfl) (fun _ _ _ h => h) (held_load rfl 28 (.tmp 53) rfl (A := ⟨g, A.length * 101 + 33, none⟩) rfl (fun w hw => by rw [hw]; exact one_parent_mid HR6.out HPL.out)) hS ?_
          try (conv => lhs; change (Act.mk #[_,_,_,_,_,_,_,_,_,_,_,_,_,_,_,_,_,_,_,_,_,_,_,_,_,_,_,_,_,_,_,_,_,_,_,_,_,_,_,_,_,_,_,_,_,_,_,_,_,_,_,_,_,_,_,_,_,_,_,_,_,_,_,_,_,_,_] _))
          refine wpAnyH_take (i := 11) (v := .int .i64 (valAt kv prev : Int)) rfl (by kernel_rfl) (by kernel_rfl) (by kernel_rfl) (fun _ _ _ h => h) (Or.inl ⟨by rfl, fun w hw => by rw [hw]; exact lookup28_run (x := .tmp 44) (y := .tmp 54) (m := B + 1) (k := prev) rfl rfl rfl HMM6.out HPL.out⟩) hS ?_
          try (conv => lhs; change (Act.mk #[_,_,_,_,_,_,_,_,_,_,_,_,_,_,_,_,_,_,_,_,_,_,_,_,_,_,_,_,_,_,_,_,_,_,_,_,_,_,_,_,_,_,_,_,_,_,_,_,_,_,_,_,_,_,_,_,_,_,_,_,_,_,_,_,_,_,_] _))
          refine wpAnyH_take (i := 12) (v := .bool (valAt kv prev == 0)) rfl (by kernel_rfl) (by kernel_rfl) (by kernel_rfl) (fun _ _ _ h => h) (held_pure rfl (fun w => eql0_run (x := .tmp 55) (z := valAt kv prev) rfl rfl)) hS ?_
          try (conv => lhs; change (Act.mk #[_,_,_,_,_,_,_,_,_,_,_,_,_,_,_,_,_,_,_,_,_,_,_,_,_,_,_,_,_,_,_,_,_,_,_,_,_,_,_,_,_,_,_,_,_,_,_,_,_,_,_,_,_,_,_,_,_,_,_,_,_,_,_,_,_,_,_] _))
          refine wpAnyH_done (by kernel_rfl) ?_ _
          clear hS
          change Exit.then _ _ Exit.normal _ _
          by_cases hs : valAt kv prev = 0
          · have hsf : S prev = false := by rw [HSD.out]; simp [hs]
            rw [show (valAt kv prev == 0) = true by rw [hs]; rfl]
            have hT1 := HT1.out
            have hT2 := HT2.out
            simp only [hsf, Bool.not_false, if_true, if_false, List.append_nil, Bool.false_eq_true] at hT1 hT2
            rw [← HA.out] at hT1
            rw [← HC.out] at hT2
            have HT1' := Lib.hid hT1
            have HT2' := Lib.hid hT2
            clear hT1 hT2
            go_upto_region 13 with (fail)
            refine wp_region_lit ?_
            refine wpList_one (v := .int .i64 (A.length : Int)) (w' := W6) rfl (by kernel_rfl) ?_
            try (conv => lhs; change (Act.mk #[_,_,_,_,_,_,_,_,_,_,_,_,_,_,_,_,_,_,_,_,_,_,_,_,_,_,_,_,_,_,_,_,_,_,_,_,_,_,_,_,_,_,_,_,_,_,_,_,_,_,_,_,_,_,_,_,_,_,_,_,_,_,_,_,_,_,_] _))
            refine wpList_one (v := .int .i64 ((A.length + 1 : Nat) : Int)) (w' := W6) rfl (add1_run rfl rfl (by have := HAC.out; have := HJLT.out; have := HL50.out; omega)) ?_
            try (conv => lhs; change (Act.mk #[_,_,_,_,_,_,_,_,_,_,_,_,_,_,_,_,_,_,_,_,_,_,_,_,_,_,_,_,_,_,_,_,_,_,_,_,_,_,_,_,_,_,_,_,_,_,_,_,_,_,_,_,_,_,_,_,_,_,_,_,_,_,_,_,_,_,_] _))
            go_wp2_with fail
            go_roundw
            case rel =>
              first | refine ⟨j + 1, _, HJLT.out, ?_, HMV6.out, ?_, ?_⟩ | refine ⟨j + 1, HJLT.out, _, ?_, HMV6.out, ?_, ?_⟩
              · rw [HT1'.out, List.append_assoc, List.singleton_append, ← drop_at HI.out]; exact HQ6.out
              · rw [HT1'.out, List.length_append]; first | rfl | simp
              · rw [HT2'.out]; exact HU6.out
            case measure =>
              rw [HUS.out]
              have := HAC.out
              have := HJLT.out
              simp only [intOf, lenV]
              omega
          · have hst : S prev = true := by rw [HSD.out]; simp; omega
            rw [show (valAt kv prev == 0) = false by simpa using hs]
            have hT1 := HT1.out
            have hT2 := HT2.out
            simp only [hst, Bool.not_true, if_true, if_false, List.append_nil, Bool.false_eq_true] at hT1 hT2
            rw [← HA.out] at hT1
            rw [← HC.out] at hT2
            have HT1' := Lib.hid hT1
            have HT2' := Lib.hid hT2
            clear hT1 hT2
            go_upto_region 14 with (fail)
            refine wp_region_lit ?_
            refine wpList_one (w' := W6) rfl (move_run (x := .tmp 8) rfl rfl) ?_
            try (conv => lhs; change (Act.mk #[_,_,_,_,_,_,_,_,_,_,_,_,_,_,_,_,_,_,_,_,_,_,_,_,_,_,_,_,_,_,_,_,_,_,_,_,_,_,_,_,_,_,_,_,_,_,_,_,_,_,_,_,_,_,_,_,_,_,_,_,_,_,_,_,_,_,_] _))
            refine wpList_one (v := .pointer (some ⟨p, 0, none⟩)) (w' := W6) rfl (by kernel_rfl) ?_
            try (conv => lhs; change (Act.mk #[_,_,_,_,_,_,_,_,_,_,_,_,_,_,_,_,_,_,_,_,_,_,_,_,_,_,_,_,_,_,_,_,_,_,_,_,_,_,_,_,_,_,_,_,_,_,_,_,_,_,_,_,_,_,_,_,_,_,_,_,_,_,_,_,_,_,_] _))
            refine wpList_one (v := .int .i64 (A.length : Int)) (w' := W6) rfl (by kernel_rfl) ?_
            try (conv => lhs; change (Act.mk #[_,_,_,_,_,_,_,_,_,_,_,_,_,_,_,_,_,_,_,_,_,_,_,_,_,_,_,_,_,_,_,_,_,_,_,_,_,_,_,_,_,_,_,_,_,_,_,_,_,_,_,_,_,_,_,_,_,_,_,_,_,_,_,_,_,_,_] _))
            refine wpList_call rfl (f := 101) (args := #[.pointer (some ⟨p, 0, none⟩), .int .i64 (A.length : Int)]) (by kernel_rfl) ((out_any p c _ most _ A.length prev n HAT.out W6 HQ6.out).mono ?_)
            rintro e W7 ⟨rfl, v7, hp7, hm7⟩
            refine ⟨_, rfl, ?_⟩
            try (conv => lhs; change (Act.mk #[_,_,_,_,_,_,_,_,_,_,_,_,_,_,_,_,_,_,_,_,_,_,_,_,_,_,_,_,_,_,_,_,_,_,_,_,_,_,_,_,_,_,_,_,_,_,_,_,_,_,_,_,_,_,_,_,_,_,_,_,_,_,_,_,_,_,_] _))
            rw [HER.out] at hp7
            have HU7 := Lib.hid (own_moved HU6.out HQ6.out (by decide) (by decide) hm7)
            have HMV7 := Lib.hid (HMV6.out.trans hm7)
            have HQ7 := Lib.hid hp7
            clear hp7 hm7
            refine wpList_one (w' := W7) rfl (field_run (x := .tmp 62) rfl rfl (field139_0 (hh prev n) prev n (hh_length _ _) HPL.out W7)) ?_
            try (conv => lhs; change (Act.mk #[_,_,_,_,_,_,_,_,_,_,_,_,_,_,_,_,_,_,_,_,_,_,_,_,_,_,_,_,_,_,_,_,_,_,_,_,_,_,_,_,_,_,_,_,_,_,_,_,_,_,_,_,_,_,_,_,_,_,_,_,_,_,_,_,_,_,_] _))
            refine wpList_one (w' := W7.alloc (.cells (bytesA (hh prev n)) 28)) rfl (buildS_run (x := .tmp 63) rfl rfl (run_buildTo 83 28 1 #[(0, .agg (bytesA (hh prev n)))] Try.underlying83 (fill28 (hh prev n) (hh_length _ _)))) ?_
            try (conv => lhs; change (Act.mk #[_,_,_,_,_,_,_,_,_,_,_,_,_,_,_,_,_,_,_,_,_,_,_,_,_,_,_,_,_,_,_,_,_,_,_,_,_,_,_,_,_,_,_,_,_,_,_,_,_,_,_,_,_,_,_,_,_,_,_,_,_,_,_,_,_,_,_] _))
            obtain ⟨W8, hW8⟩ : ∃ W8, W8 = W7.alloc (.cells (bytesA (hh prev n)) 28) := ⟨_, rfl⟩
            obtain ⟨q, hq⟩ : ∃ q, q = W7.heap.size := ⟨_, rfl⟩
            have hb8 : Below W7.heap.size W7 W8 := hW8 ▸ (Below.refl _ _).alloc (Nat.le_refl _) _
            have hq8 : W8.heap[q]? = some (.cells (bytesA (hh prev n)) 28 (0, 0)) := by rw [hW8, hq]; exact heap_alloc_new _ _
            rw [← hW8, ← hq]
            have HU8 := Lib.hid (HU7.out.kept (grownBy_of_below hb8 none) (own_some _))
            have HMV8 := Lib.hid (HMV7.out.below hb8)
            have HQ8 := Lib.hid (HQ7.out.below hb8)
            clear hb8 hW8 hq
            obtain ⟨u9, W9, hrun, hown9, hgr9⟩ := append28 W8 83 Wd.heap.size HMV8.out.size _ C.length (hashCells (hashL C)) HU8.out (by have := HAC.out; have := HJLT.out; have := HL50.out; omega) q (hh prev n) (hh_length _ _) hq8
            refine wpList_one (w' := W9) rfl (append_run (x := .tmp 59) (y := .tmp 64) rfl rfl rfl hrun) ?_
            try (conv => lhs; change (Act.mk #[_,_,_,_,_,_,_,_,_,_,_,_,_,_,_,_,_,_,_,_,_,_,_,_,_,_,_,_,_,_,_,_,_,_,_,_,_,_,_,_,_,_,_,_,_,_,_,_,_,_,_,_,_,_,_,_,_,_,_,_,_,_,_,_,_,_,_] _))
            have HQ9 := Lib.hid (HQ8.out.grown HU8.out (by decide) (by decide) hgr9)
            have HMV9 := Lib.hid (HMV8.out.grown hgr9 (fun k hk => (HU8.out.lt k hk).1))
            have HU9 := Lib.hid hown9
            clear hrun hown9 hgr9 hq8
            obtain ⟨ua9, uc9, hus9⟩ := own_len HU9.out
            have HUS9 := Lib.hid hus9
            clear hus9
            go_wp2_with fail
            go_roundw
            case rel =>
              first | refine ⟨j + 1, _, HJLT.out, ?_, HMV9.out, ?_, ?_⟩ | refine ⟨j + 1, HJLT.out, _, ?_, HMV9.out, ?_, ?_⟩
              · rw [HT1'.out]; exact HQ9.out
              · rw [HT1'.out]
              · rw [HT2'.out, List.length_append]
                have : hashCells (hashL (C ++ [(prev, n)])) = hashCells (hashL C) ++ (hh prev n).map V8 := by rw [← hashCells_snoc]; simp [hashL]
                rw [this]; exact HU9.out
            case measure =>
              rw [HUS.out, HUS9.out]
              have := HAC.out
              have := HJLT.out
              simp only [intOf, lenV]
              omega
        · have hje : j = l.length := by have := HJ.out; omega
          rw [decide_eq_false (by have := HLEN.out; omega : ¬ A.length < (A ++ l.drop j).length)]
          have HF : Hid (A = l.filter fun b => !S b.1) := Lib.hid (by rw [HA.out, hje, List.take_length])
          have HFC : Hid (C = l.filter fun b => S b.1) := Lib.hid (by rw [HC.out, hje, List.take_length])
          have HDR : Hid (A ++ l.drop j = A) := Lib.hid (by rw [hje, List.drop_length, List.append_nil])
          clear hlt hje
          go_wp2_with fail
          go_ret
          refine ⟨S, _, rfl, HG.out, ?_, _, ?_, (Moved.of_below HB.out).trans HMV.out⟩
          · rw [← HFC.out]
            have := HU.out
            exact own_of_block this (fun _ _ => rfl) HB.out.size
          · rw [← HF.out]
            have h0 := HQ.out
            generalize Value.slice va (A ++ l.drop j).length vc = vv at h0 ⊢
            rw [HDR.out] at h0
            exact h0
    · obtain ⟨i, prev, n, hfa, hi, hmore⟩ := firstAt_hitD hneg
      have hlt := (List.getElem?_eq_some_iff.1 hi).1
      obtain ⟨hK', hbe⟩ := hang_bump HK.out HM.out.2.2 (List.mem_of_getElem? hi) hmore
      obtain ⟨g, cap, hv, _, _, _, hrange⟩ := HPr.out.at hi
      subst hv
      rw [hfa]
      go_upto_region 6 with (fail)
      refine wp_region_lit ?_
      refine wpList_one (w' := wr) rfl (move_run (x := .tmp 7) rfl rfl) ?_
      try (conv => lhs; change (Act.mk #[_,_,_,_,_,_,_,_,_,_,_,_,_,_,_,_,_,_,_,_,_,_,_,_,_,_,_,_,_,_,_,_,_,_,_,_,_,_,_,_,_,_,_,_,_,_,_,_,_,_,_,_,_,_,_,_,_,_,_,_,_,_,_,_,_,_,_] _))
      refine wpList_one (w' := wr) rfl (geq_run (x := .tmp 19) (z := (i : Int)) rfl rfl) ?_
      try (conv => lhs; change (Act.mk #[_,_,_,_,_,_,_,_,_,_,_,_,_,_,_,_,_,_,_,_,_,_,_,_,_,_,_,_,_,_,_,_,_,_,_,_,_,_,_,_,_,_,_,_,_,_,_,_,_,_,_,_,_,_,_,_,_,_,_,_,_,_,_,_,_,_,_] _))
      rw [decide_eq_true (by omega : 0 ≤ (i : Int))]
      go_upto_region 8 with (fail)
      refine wp_region_held_drew (S := (fun w' => PoolAt w' p c (.slice (some ⟨g, 0, none⟩) l.length cap) most l ∧ w'.heap[B + 2]? = some (.cells #[.map (some (B + 1))] 118 (0, 0)))) (by kernel_rfl) ⟨HPr.out.drew, HV.out⟩ (fun hS => ?_)
      obtain ⟨W6, hW6⟩ : ∃ W6, W6 = wr.drew := ⟨_, rfl⟩
      have hb6 : Below wr.heap.size wr W6 := hW6 ▸ (Below.refl _ _).drew
      rw [← hW6]
      have HM6 := Lib.hid (HM.out.below hb6)
      have HB6 := Lib.hid (HB.out.trans (hb6.mono HB.out.size))
      have HZ6 := Lib.hid (Nat.le_trans HZ.out hb6.size)
      have HI := Lib.hid hi
      have HLT := Lib.hid hlt
      have HKN := Lib.hid hK'
      have HBE2 := Lib.hid hbe
      have hS0 := hS
      rw [← hW6] at hS
      have HMr := HM
      clear hb6 hW6 hS0 HM HB HZ HV HPr hrange hi hlt hK' hbe hneg hfa
      try (conv => lhs; change (Act.mk #[_,_,_,_,_,_,_,_,_,_,_,_,_,_,_,_,_,_,_,_,_,_,_,_,_,_,_,_,_,_,_,_,_,_,_,_,_,_,_,_,_,_,_,_,_,_,_,_,_,_,_,_,_,_,_,_,_,_,_,_,_,_,_,_,_,_,_] _))
      refine wpAnyH_take (i := 0) (v := .map (some (B + 1))) rfl (by kernel_rfl) (by kernel_rfl) (by kernel_rfl) (fun _ _ _ h => h) (held_load rfl 118 (.tmp 5) rfl (A := ⟨B + 2, 0, none⟩) rfl (fun w hw => load118 (cell_of_row _ _ _ _ _ _ hw.2))) hS ?_
      try (conv => lhs; change (Act.mk #[_,_,_,_,_,_,_,_,_,_,_,_,_,_,_,_,_,_,_,_,_,_,_,_,_,_,_,_,_,_,_,_,_,_,_,_,_,_,_,_,_,_,_,_,_,_,_,_,_,_,_,_,_,_,_,_,_,_,_,_,_,_,_,_,_,_,_] _))
      refine wpAnyH_take (i := 1) (v := .pointer (some ⟨p, 0, none⟩)) rfl (by kernel_rfl) (by kernel_rfl) (by kernel_rfl) (fun _ _ _ h => h) (held_pure rfl (fun w => by kernel_rfl)) hS ?_
      try (conv => lhs; change (Act.mk #[_,_,_,_,_,_,_,_,_,_,_,_,_,_,_,_,_,_,_,_,_,_,_,_,_,_,_,_,_,_,_,_,_,_,_,_,_,_,_,_,_,_,_,_,_,_,_,_,_,_,_,_,_,_,_,_,_,_,_,_,_,_,_,_,_,_,_] _))
      refine wpAnyH_take (i := 2) (v := .pointer (some ⟨p, 0, none⟩)) rfl (by kernel_rfl) (by kernel_rfl) (by kernel_rfl) (fun _ _ _ h => h) (held_pure rfl (fun w => by kernel_rfl)) hS ?_
      try (conv => lhs; change (Act.mk #[_,_,_,_,_,_,_,_,_,_,_,_,_,_,_,_,_,_,_,_,_,_,_,_,_,_,_,_,_,_,_,_,_,_,_,_,_,_,_,_,_,_,_,_,_,_,_,_,_,_,_,_,_,_,_,_,_,_,_,_,_,_,_,_,_,_,_] _))
      refine wpAnyH_take (i := 3) (v := .pointer (some ⟨p, 1, none⟩)) rfl (by kernel_rfl) (by kernel_rfl) (by kernel_rfl) (fun _ _ _ h => h) (held_pure rfl (fun w => by kernel_rfl)) hS ?_
      try (conv => lhs; change (Act.mk #[_,_,_,_,_,_,_,_,_,_,_,_,_,_,_,_,_,_,_,_,_,_,_,_,_,_,_,_,_,_,_,_,_,_,_,_,_,_,_,_,_,_,_,_,_,_,_,_,_,_,_,_,_,_,_,_,_,_,_,_,_,_,_,_,_,_,_] _))
      refine wpAnyH_take (i := 4) (v := .slice (some ⟨g, 0, none⟩) l.length cap) rfl (by kernel_rfl) (by kernel_rfl) (by kernel_rfl) (fun _ _ _ h => h) (held_load rfl 89 (.tmp 27) rfl (A := ⟨p, 1, none⟩) rfl (fun w hw => load89 hw.1.cells.2)) hS ?_
      try (conv => lhs; change (Act.mk #[_,_,_,_,_,_,_,_,_,_,_,_,_,_,_,_,_,_,_,_,_,_,_,_,_,_,_,_,_,_,_,_,_,_,_,_,_,_,_,_,_,_,_,_,_,_,_,_,_,_,_,_,_,_,_,_,_,_,_,_,_,_,_,_,_,_,_] _))
      refine wpAnyH_take (i := 5) (v := .int .i64 (i : Int)) rfl (by kernel_rfl) (by kernel_rfl) (by kernel_rfl) (fun _ _ _ h => h) (held_pure rfl (fun w => by kernel_rfl)) hS ?_
      try (conv => lhs; change (Act.mk #[_,_,_,_,_,_,_,_,_,_,_,_,_,_,_,_,_,_,_,_,_,_,_,_,_,_,_,_,_,_,_,_,_,_,_,_,_,_,_,_,_,_,_,_,_,_,_,_,_,_,_,_,_,_,_,_,_,_,_,_,_,_,_,_,_,_,_] _))
      refine wpAnyH_take (i := 6) (v := .pointer (some ⟨g, i * 101, none⟩)) rfl (by kernel_rfl) (by kernel_rfl) (by kernel_rfl) (fun _ _ _ h => h) (held_pure rfl (fun w => index_run rfl (index89 w g l.length cap i HLT.out))) hS ?_
      try (conv => lhs; change (Act.mk #[_,_,_,_,_,_,_,_,_,_,_,_,_,_,_,_,_,_,_,_,_,_,_,_,_,_,_,_,_,_,_,_,_,_,_,_,_,_,_,_,_,_,_,_,_,_,_,_,_,_,_,_,_,_,_,_,_,_,_,_,_,_,_,_,_,_,_] _))
      refine wpAnyH_take (i := 7) (v := .pointer (some ⟨g, i * 101, none⟩)) rfl (by kernel_rfl) (by kernel_rfl) (by kernel_rfl) (fun _ _ _ h => h) (held_pure rfl (fun w => by kernel_rfl)) hS ?_
      try (conv => lhs; change (Act.mk #[_,_,_,_,_,_,_,_,_,_,_,_,_,_,_,_,_,_,_,_,_,_,_,_,_,_,_,_,_,_,_,_,_,_,_,_,_,_,_,_,_,_,_,_,_,_,_,_,_,_,_,_,_,_,_,_,_,_,_,_,_,_,_,_,_,_,_] _))
      refine wpAnyH_take (i := 8) (v := .agg (bytesA (hh prev n))) rfl (by kernel_rfl) (by kernel_rfl) (by kernel_rfl) (fun _ _ _ h => h) (held_load rfl 28 (.tmp 31) rfl (A := ⟨g, i * 101, none⟩) rfl (fun w hw => by obtain ⟨g', cap', hv', _, _, _, hr'⟩ := hw.1.at HI.out; cases hv'; exact one_hash_mid hr')) hS ?_
      try (conv => lhs; change (Act.mk #[_,_,_,_,_,_,_,_,_,_,_,_,_,_,_,_,_,_,_,_,_,_,_,_,_,_,_,_,_,_,_,_,_,_,_,_,_,_,_,_,_,_,_,_,_,_,_,_,_,_,_,_,_,_,_,_,_,_,_,_,_,_,_,_,_,_,_] _))
      have HV0 := Lib.hid (show valAt kv (hh prev n) = 0 by have := hmore; unfold moreL at this; rw [Bool.and_eq_true] at this; simpa using this.2)
      clear hmore
      refine wpAnyH_ready (rs := [9, 11]) (by kernel_rfl) (by simp) ?_
      refine AllReadyH.cons rfl (fun K hK => ?_) (AllReadyH.cons rfl (fun K hK => ?_) AllReadyH.nil)
      · refine step_val rfl (.int .i64 (valAt kv (hh prev n) : Int)) (lookup28_run (x := .tmp 24) (y := .tmp 32) (m := B + 1) (k := (hh prev n)) rfl rfl rfl HM6.out (hh_length _ _)) ?_
        refine hK.out _ _ hS (fun hS => ?_); clear hK K
        try (conv => lhs; change (Act.mk #[_,_,_,_,_,_,_,_,_,_,_,_,_,_,_,_,_,_,_,_,_,_,_,_,_,_,_,_,_,_,_,_,_,_,_,_,_,_,_,_,_,_,_,_,_,_,_,_,_,_,_,_,_,_,_,_,_,_,_,_,_,_,_,_,_,_,_] _))
        refine wpAnyH_take (i := 10) (v := .int .i64 ((valAt kv (hh prev n) + 1 : Nat) : Int)) rfl (by kernel_rfl) (by kernel_rfl) (by kernel_rfl) (fun _ _ _ h => h) (held_pure rfl (fun w => add1_run (x := .tmp 33) (i := valAt kv (hh prev n)) rfl rfl (by rw [HV0.out]; omega))) hS ?_
        try (conv => lhs; change (Act.mk #[_,_,_,_,_,_,_,_,_,_,_,_,_,_,_,_,_,_,_,_,_,_,_,_,_,_,_,_,_,_,_,_,_,_,_,_,_,_,_,_,_,_,_,_,_,_,_,_,_,_,_,_,_,_,_,_,_,_,_,_,_,_,_,_,_,_,_] _))
        refine wpAnyH_ready (rs := [11]) (by kernel_rfl) (by simp) ?_
        refine AllReadyH.cons rfl (fun K hK => ?_) AllReadyH.nil
        obtain ⟨j, hrun, hj, h1, h2, hset⟩ := entry_run W6 (B + 1) kv (hh prev n) HM6.out (hh_length _ _)
        refine step_val rfl _ (entry28_run (x := .tmp 24) (y := .tmp 32) (m := B + 1) (k := (hh prev n)) rfl rfl rfl hrun) ?_
        have hm7 := HM6.out.entered h1 h2
        have hSn := And.intro (hS.1.putMap HM6.out.1 (.map (entriesAt 0 (enterL kv (hh prev n))).toArray (enterL kv (hh prev n)).length)) ((World.putObj_heap_other (w := W6) (o := .map (entriesAt 0 (enterL kv (hh prev n))).toArray (enterL kv (hh prev n)).length) (by omega : B + 2 ≠ B + 1)).trans hS.2)
        have hb7 := below_put HB6.out (m := B + 1) (by have := HBE.out; omega) (.map (entriesAt 0 (enterL kv (hh prev n))).toArray (enterL kv (hh prev n)).length)
        have hz7 : (W6.putObj (B + 1) (.map (entriesAt 0 (enterL kv (hh prev n))).toArray (enterL kv (hh prev n)).length)).heap.size = W6.heap.size := by simp
        obtain ⟨W7, hW7⟩ : ∃ W7, W7 = W6.putObj (B + 1) (.map (entriesAt 0 (enterL kv (hh prev n))).toArray (enterL kv (hh prev n)).length) := ⟨_, rfl⟩
        rw [← hW7] at hm7 hSn hb7 hz7
        rw [← hW7]
        have HM7 := Lib.hid hm7
        have HB7 := Lib.hid hb7
        have HZ7 := Lib.hid (show B + 3 ≤ W7.heap.size by rw [hz7]; exact HZ6.out)
        have HJ := Lib.hid hj
        have HSET := Lib.hid hset
        clear hW7 hm7 hb7 hz7 hrun hj h1 h2 hset
        refine hK.out _ _ hSn (fun hS => ?_); clear hK K
        try (conv => lhs; change (Act.mk #[_,_,_,_,_,_,_,_,_,_,_,_,_,_,_,_,_,_,_,_,_,_,_,_,_,_,_,_,_,_,_,_,_,_,_,_,_,_,_,_,_,_,_,_,_,_,_,_,_,_,_,_,_,_,_,_,_,_,_,_,_,_,_,_,_,_,_] _))
        clear hSn
        refine wpAnyH_take (i := 12) (v := .int .i64 (j : Int)) rfl (by kernel_rfl) (by kernel_rfl) (by kernel_rfl) (fun _ _ _ h => h) (held_pure rfl (fun w => by kernel_rfl)) hS ?_
        try (conv => lhs; change (Act.mk #[_,_,_,_,_,_,_,_,_,_,_,_,_,_,_,_,_,_,_,_,_,_,_,_,_,_,_,_,_,_,_,_,_,_,_,_,_,_,_,_,_,_,_,_,_,_,_,_,_,_,_,_,_,_,_,_,_,_,_,_,_,_,_,_,_,_,_] _))
        refine wpAnyH_ready (rs := [13]) (by kernel_rfl) (by simp) ?_
        refine AllReadyH.cons rfl (fun K hK => ?_) AllReadyH.nil
        have hes := entryStore_run W7 (B + 1) (enterL kv (hh prev n)) (hh prev n) (valAt kv (hh prev n) + 1) _ j HM7.out HJ.out
        refine step_skip rfl (estore28_run (x := .tmp 24) (y := .tmp 36) (z := .tmp 34) (m := B + 1) (i := j) (n := valAt kv (hh prev n) + 1) rfl rfl rfl rfl hes) ?_
        have hm8 := HM7.out.bumped HSET.out
        have hSn := And.intro (hS.1.putMap HM7.out.1 (.map (entriesAt 0 ((enterL kv (hh prev n)).set j ((hh prev n), valAt kv (hh prev n) + 1))).toArray ((enterL kv (hh prev n)).set j ((hh prev n), valAt kv (hh prev n) + 1)).length)) ((World.putObj_heap_other (w := W7) (o := .map (entriesAt 0 ((enterL kv (hh prev n)).set j ((hh prev n), valAt kv (hh prev n) + 1))).toArray ((enterL kv (hh prev n)).set j ((hh prev n), valAt kv (hh prev n) + 1)).length) (by omega : B + 2 ≠ B + 1)).trans hS.2)
        have hb8 := below_put HB7.out (m := B + 1) (by have := HBE.out; omega) (.map (entriesAt 0 ((enterL kv (hh prev n)).set j ((hh prev n), valAt kv (hh prev n) + 1))).toArray ((enterL kv (hh prev n)).set j ((hh prev n), valAt kv (hh prev n) + 1)).length)
        have hz8 : (W7.putObj (B + 1) (.map (entriesAt 0 ((enterL kv (hh prev n)).set j ((hh prev n), valAt kv (hh prev n) + 1))).toArray ((enterL kv (hh prev n)).set j ((hh prev n), valAt kv (hh prev n) + 1)).length)).heap.size = W7.heap.size := by simp
        obtain ⟨W8, hW8⟩ : ∃ W8, W8 = W7.putObj (B + 1) (.map (entriesAt 0 ((enterL kv (hh prev n)).set j ((hh prev n), valAt kv (hh prev n) + 1))).toArray ((enterL kv (hh prev n)).set j ((hh prev n), valAt kv (hh prev n) + 1)).length) := ⟨_, rfl⟩
        rw [← hW8] at hm8 hSn hb8 hz8
        rw [← hW8]
        have HM8 := Lib.hid hm8
        have HB8 := Lib.hid hb8
        have HZ8 := Lib.hid (show B + 3 ≤ W8.heap.size by rw [hz8]; exact HZ7.out)
        clear hW8 hm8 hb8 hz8 hes
        refine hK.out _ _ hSn (fun hS => ?_); clear hK K
        try (conv => lhs; change (Act.mk #[_,_,_,_,_,_,_,_,_,_,_,_,_,_,_,_,_,_,_,_,_,_,_,_,_,_,_,_,_,_,_,_,_,_,_,_,_,_,_,_,_,_,_,_,_,_,_,_,_,_,_,_,_,_,_,_,_,_,_,_,_,_,_,_,_,_,_] _))
        clear hSn
        refine wpAnyH_done (by kernel_rfl) ?_ _
        have HP8 := Lib.hid hS.1
        have HV8 := Lib.hid hS.2
        clear hS
        have hfind := find_any p c (.slice (some ⟨g, 0, none⟩) l.length cap) most l 100 #[.pointer (some ⟨B + 2, 0, none⟩)] (moreL (bumpL kv (hh prev n))) (enters_of Try.func100 (by kernel_rfl) rfl) W8 HP8.out
          (fun prev' n' hm W hb => drop1_any (B + 1) (B + 2) (bumpL kv (hh prev n)) prev' n' (HP8.out.lens _ hm).1 W (block_below' hb HV8.out) (HM8.out.below hb))
        have HFD := Lib.hid hfind
        clear hfind
        change Exit.inBlock _ (Exit.then _ _) Exit.normal _ _
        go_upto_region 7 with (fail)
        refine wp_region_lit ?_
        refine wpList_one (v := .pointer (some ⟨p, 0, none⟩)) (w' := W8) rfl (by kernel_rfl) ?_
        try (conv => lhs; change (Act.mk #[_,_,_,_,_,_,_,_,_,_,_,_,_,_,_,_,_,_,_,_,_,_,_,_,_,_,_,_,_,_,_,_,_,_,_,_,_,_,_,_,_,_,_,_,_,_,_,_,_,_,_,_,_,_,_,_,_,_,_,_,_,_,_,_,_,_,_] _))
        refine wpList_one (v := .func (.func 100) #[] #[.pointer (some ⟨B + 2, 0, none⟩)]) (w' := W8) rfl (by kernel_rfl) ?_
        try (conv => lhs; change (Act.mk #[_,_,_,_,_,_,_,_,_,_,_,_,_,_,_,_,_,_,_,_,_,_,_,_,_,_,_,_,_,_,_,_,_,_,_,_,_,_,_,_,_,_,_,_,_,_,_,_,_,_,_,_,_,_,_,_,_,_,_,_,_,_,_,_,_,_,_] _))
        refine wpList_call rfl (f := 97) (args := #[.pointer (some ⟨p, 0, none⟩), .func (.func 100) #[] #[.pointer (some ⟨B + 2, 0, none⟩)]]) (by kernel_rfl) (HFD.out.mono ?_)
        rintro e W9 ⟨rfl, hb9⟩
        refine ⟨_, rfl, ?_⟩
        try (conv => lhs; change (Act.mk #[_,_,_,_,_,_,_,_,_,_,_,_,_,_,_,_,_,_,_,_,_,_,_,_,_,_,_,_,_,_,_,_,_,_,_,_,_,_,_,_,_,_,_,_,_,_,_,_,_,_,_,_,_,_,_,_,_,_,_,_,_,_,_,_,_,_,_] _))
        have HM9 := Lib.hid (HM8.out.below hb9)
        have HV9 := Lib.hid (block_below' hb9 HV8.out)
        have HZ9 := Lib.hid (Nat.le_trans HZ8.out hb9.size)
        have HB9 := Lib.hid (HB8.out.trans (hb9.mono HB8.out.size))
        clear hb9 HFD
        go_wp2_with fail
        go_roundw
        case rel => exact ⟨_, rfl, HM9.out, HV9.out, HZ9.out, HB9.out, HKN.out⟩
        case measure =>
          rw [sizeM_at HM9.out, sizeM_at HMr.out]
          have := hang_len HKN.out HM9.out.2.2
          rw [HBE2.out, List.length_append] at this ⊢
          simp only [List.length_cons, List.length_nil] at this ⊢
          omega
      · obtain ⟨j, hrun, hj, h1, h2, hset⟩ := entry_run W6 (B + 1) kv (hh prev n) HM6.out (hh_length _ _)
        refine step_val rfl _ (entry28_run (x := .tmp 24) (y := .tmp 32) (m := B + 1) (k := (hh prev n)) rfl rfl rfl hrun) ?_
        have hm7 := HM6.out.entered h1 h2
        have hSn := And.intro (hS.1.putMap HM6.out.1 (.map (entriesAt 0 (enterL kv (hh prev n))).toArray (enterL kv (hh prev n)).length)) ((World.putObj_heap_other (w := W6) (o := .map (entriesAt 0 (enterL kv (hh prev n))).toArray (enterL kv (hh prev n)).length) (by omega : B + 2 ≠ B + 1)).trans hS.2)
        have hb7 := below_put HB6.out (m := B + 1) (by have := HBE.out; omega) (.map (entriesAt 0 (enterL kv (hh prev n))).toArray (enterL kv (hh prev n)).length)
        have hz7 : (W6.putObj (B + 1) (.map (entriesAt 0 (enterL kv (hh prev n))).toArray (enterL kv (hh prev n)).length)).heap.size = W6.heap.size := by simp
        obtain ⟨W7, hW7⟩ : ∃ W7, W7 = W6.putObj (B + 1) (.map (entriesAt 0 (enterL kv (hh prev n))).toArray (enterL kv (hh prev n)).length) := ⟨_, rfl⟩
        rw [← hW7] at hm7 hSn hb7 hz7
        rw [← hW7]
        have HM7 := Lib.hid hm7
        have HB7 := Lib.hid hb7
        have HZ7 := Lib.hid (show B + 3 ≤ W7.heap.size by rw [hz7]; exact HZ6.out)
        have HJ := Lib.hid hj
        have HSET := Lib.hid hset
        clear hW7 hm7 hb7 hz7 hrun hj h1 h2 hset
        refine hK.out _ _ hSn (fun hS => ?_); clear hK K
        try (conv => lhs; change (Act.mk #[_,_,_,_,_,_,_,_,_,_,_,_,_,_,_,_,_,_,_,_,_,_,_,_,_,_,_,_,_,_,_,_,_,_,_,_,_,_,_,_,_,_,_,_,_,_,_,_,_,_,_,_,_,_,_,_,_,_,_,_,_,_,_,_,_,_,_] _))
        clear hSn
        refine wpAnyH_take (i := 12) (v := .int .i64 (j : Int)) rfl (by kernel_rfl) (by kernel_rfl) (by kernel_rfl) (fun _ _ _ h => h) (held_pure rfl (fun w => by kernel_rfl)) hS ?_
        try (conv => lhs; change (Act.mk #[_,_,_,_,_,_,_,_,_,_,_,_,_,_,_,_,_,_,_,_,_,_,_,_,_,_,_,_,_,_,_,_,_,_,_,_,_,_,_,_,_,_,_,_,_,_,_,_,_,_,_,_,_,_,_,_,_,_,_,_,_,_,_,_,_,_,_] _))
        refine wpAnyH_ready (rs := [9]) (by kernel_rfl) (by simp) ?_
        refine AllReadyH.cons rfl (fun K hK => ?_) AllReadyH.nil
        refine step_val rfl (.int .i64 (valAt (enterL kv (hh prev n)) (hh prev n) : Int)) (lookup28_run (x := .tmp 24) (y := .tmp 32) (m := B + 1) (k := (hh prev n)) rfl rfl rfl HM7.out (hh_length _ _)) ?_
        rw [valAt_enter]
        refine hK.out _ _ hS (fun hS => ?_); clear hK K
        try (conv => lhs; change (Act.mk #[_,_,_,_,_,_,_,_,_,_,_,_,_,_,_,_,_,_,_,_,_,_,_,_,_,_,_,_,_,_,_,_,_,_,_,_,_,_,_,_,_,_,_,_,_,_,_,_,_,_,_,_,_,_,_,_,_,_,_,_,_,_,_,_,_,_,_] _))
        refine wpAnyH_take (i := 10) (v := .int .i64 ((valAt kv (hh prev n) + 1 : Nat) : Int)) rfl (by kernel_rfl) (by kernel_rfl) (by kernel_rfl) (fun _ _ _ h => h) (held_pure rfl (fun w => add1_run (x := .tmp 33) (i := valAt kv (hh prev n)) rfl rfl (by rw [HV0.out]; omega))) hS ?_
        try (conv => lhs; change (Act.mk #[_,_,_,_,_,_,_,_,_,_,_,_,_,_,_,_,_,_,_,_,_,_,_,_,_,_,_,_,_,_,_,_,_,_,_,_,_,_,_,_,_,_,_,_,_,_,_,_,_,_,_,_,_,_,_,_,_,_,_,_,_,_,_,_,_,_,_] _))
        refine wpAnyH_ready (rs := [13]) (by kernel_rfl) (by simp) ?_
        refine AllReadyH.cons rfl (fun K hK => ?_) AllReadyH.nil
        have hes := entryStore_run W7 (B + 1) (enterL kv (hh prev n)) (hh prev n) (valAt kv (hh prev n) + 1) _ j HM7.out HJ.out
        refine step_skip rfl (estore28_run (x := .tmp 24) (y := .tmp 36) (z := .tmp 34) (m := B + 1) (i := j) (n := valAt kv (hh prev n) + 1) rfl rfl rfl rfl hes) ?_
        have hm8 := HM7.out.bumped HSET.out
        have hSn := And.intro (hS.1.putMap HM7.out.1 (.map (entriesAt 0 ((enterL kv (hh prev n)).set j ((hh prev n), valAt kv (hh prev n) + 1))).toArray ((enterL kv (hh prev n)).set j ((hh prev n), valAt kv (hh prev n) + 1)).length)) ((World.putObj_heap_other (w := W7) (o := .map (entriesAt 0 ((enterL kv (hh prev n)).set j ((hh prev n), valAt kv (hh prev n) + 1))).toArray ((enterL kv (hh prev n)).set j ((hh prev n), valAt kv (hh prev n) + 1)).length) (by omega : B + 2 ≠ B + 1)).trans hS.2)
        have hb8 := below_put HB7.out (m := B + 1) (by have := HBE.out; omega) (.map (entriesAt 0 ((enterL kv (hh prev n)).set j ((hh prev n), valAt kv (hh prev n) + 1))).toArray ((enterL kv (hh prev n)).set j ((hh prev n), valAt kv (hh prev n) + 1)).length)
        have hz8 : (W7.putObj (B + 1) (.map (entriesAt 0 ((enterL kv (hh prev n)).set j ((hh prev n), valAt kv (hh prev n) + 1))).toArray ((enterL kv (hh prev n)).set j ((hh prev n), valAt kv (hh prev n) + 1)).length)).heap.size = W7.heap.size := by simp
        obtain ⟨W8, hW8⟩ : ∃ W8, W8 = W7.putObj (B + 1) (.map (entriesAt 0 ((enterL kv (hh prev n)).set j ((hh prev n), valAt kv (hh prev n) + 1))).toArray ((enterL kv (hh prev n)).set j ((hh prev n), valAt kv (hh prev n) + 1)).length) := ⟨_, rfl⟩
        rw [← hW8] at hm8 hSn hb8 hz8
        rw [← hW8]
        have HM8 := Lib.hid hm8
        have HB8 := Lib.hid hb8
        have HZ8 := Lib.hid (show B + 3 ≤ W8.heap.size by rw [hz8]; exact HZ7.out)
        clear hW8 hm8 hb8 hz8 hes
        refine hK.out _ _ hSn (fun hS => ?_); clear hK K
        try (conv => lhs; change (Act.mk #[_,_,_,_,_,_,_,_,_,_,_,_,_,_,_,_,_,_,_,_,_,_,_,_,_,_,_,_,_,_,_,_,_,_,_,_,_,_,_,_,_,_,_,_,_,_,_,_,_,_,_,_,_,_,_,_,_,_,_,_,_,_,_,_,_,_,_] _))
        clear hSn
        refine wpAnyH_done (by kernel_rfl) ?_ _
        have HP8 := Lib.hid hS.1
        have HV8 := Lib.hid hS.2
        clear hS
        have hfind := find_any p c (.slice (some ⟨g, 0, none⟩) l.length cap) most l 100 #[.pointer (some ⟨B + 2, 0, none⟩)] (moreL (bumpL kv (hh prev n))) (enters_of Try.func100 (by kernel_rfl) rfl) W8 HP8.out
          (fun prev' n' hm W hb => drop1_any (B + 1) (B + 2) (bumpL kv (hh prev n)) prev' n' (HP8.out.lens _ hm).1 W (block_below' hb HV8.out) (HM8.out.below hb))
        have HFD := Lib.hid hfind
        clear hfind
        change Exit.inBlock _ (Exit.then _ _) Exit.normal _ _
        go_upto_region 7 with (fail)
        refine wp_region_lit ?_
        refine wpList_one (v := .pointer (some ⟨p, 0, none⟩)) (w' := W8) rfl (by kernel_rfl) ?_
        try (conv => lhs; change (Act.mk #[_,_,_,_,_,_,_,_,_,_,_,_,_,_,_,_,_,_,_,_,_,_,_,_,_,_,_,_,_,_,_,_,_,_,_,_,_,_,_,_,_,_,_,_,_,_,_,_,_,_,_,_,_,_,_,_,_,_,_,_,_,_,_,_,_,_,_] _))
        refine wpList_one (v := .func (.func 100) #[] #[.pointer (some ⟨B + 2, 0, none⟩)]) (w' := W8) rfl (by kernel_rfl) ?_
        try (conv => lhs; change (Act.mk #[_,_,_,_,_,_,_,_,_,_,_,_,_,_,_,_,_,_,_,_,_,_,_,_,_,_,_,_,_,_,_,_,_,_,_,_,_,_,_,_,_,_,_,_,_,_,_,_,_,_,_,_,_,_,_,_,_,_,_,_,_,_,_,_,_,_,_] _))
        refine wpList_call rfl (f := 97) (args := #[.pointer (some ⟨p, 0, none⟩), .func (.func 100) #[] #[.pointer (some ⟨B + 2, 0, none⟩)]]) (by kernel_rfl) (HFD.out.mono ?_)
        rintro e W9 ⟨rfl, hb9⟩
        refine ⟨_, rfl, ?_⟩
        try (conv => lhs; change (Act.mk #[_,_,_,_,_,_,_,_,_,_,_,_,_,_,_,_,_,_,_,_,_,_,_,_,_,_,_,_,_,_,_,_,_,_,_,_,_,_,_,_,_,_,_,_,_,_,_,_,_,_,_,_,_,_,_,_,_,_,_,_,_,_,_,_,_,_,_] _))
        have HM9 := Lib.hid (HM8.out.below hb9)
        have HV9 := Lib.hid (block_below' hb9 HV8.out)
        have HZ9 := Lib.hid (Nat.le_trans HZ8.out hb9.size)
        have HB9 := Lib.hid (HB8.out.trans (hb9.mono HB8.out.size))
        clear hb9 HFD
        go_wp2_with fail
        go_roundw
        case rel => exact ⟨_, rfl, HM9.out, HV9.out, HZ9.out, HB9.out, HKN.out⟩
        case measure =>
          rw [sizeM_at HM9.out, sizeM_at HMr.out]
          have := hang_len HKN.out HM9.out.2.2
          rw [HBE2.out, List.length_append] at this ⊢
          simp only [List.length_cons, List.length_nil] at this ⊢
          omega
end Go.Proofs.Ytdecbimklomdjaa
