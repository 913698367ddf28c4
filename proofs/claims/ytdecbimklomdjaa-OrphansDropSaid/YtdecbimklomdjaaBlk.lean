/- purser/block: EncodeHeader, of a header that has a parent and a number alone; purser/block: Hash, Copy; purserlaw27.behind; blocks as cells. -/
import Derived.Test.YtdecbimklomdjaaPenRaw
namespace Go.Proofs.Ytdecbimklomdjaa
open Go Go.RowKit Go.Shelf
/-- A header's cells. -/
def hdrL (prev : List UInt8) (n : Nat) : List Value := .int .u32 0 :: (prev.map V8 ++ ((Sha.zeros 32).map V8 ++ [.int .u32 0, .int .u32 0, .int .u32 (n : Int)]))
/-- A header's bytes. -/
def encL (prev : List UInt8) (n : Nat) : List UInt8 := leB 4 0 ++ (prev ++ Sha.zeros 32) ++ leB 4 0 ++ leB 4 0 ++ leB 4 n
theorem hdrL_length (prev : List UInt8) (n : Nat) (h : prev.length = 32) : (hdrL prev n).length = 68 := by
  simp [hdrL, h, Sha.zeros]
theorem PenAt.below {w w' : World} {p : Nat} {l : List UInt8} (h : PenAt w p l) (hb : Below w.heap.size w w') : PenAt w' p l := by
  obtain ⟨v, h1, h2⟩ := h
  exact ⟨v, block_below' hb h1, h2.kept (grownBy_of_below hb none) (own_some v)⟩
theorem PenAt.lt {w : World} {p : Nat} {l : List UInt8} (h : PenAt w p l) : p < w.heap.size := by
  obtain ⟨v, h1, _⟩ := h
  exact (Array.getElem?_eq_some_iff.1 h1).1
/-- The header's row, and the Pen behind it. -/
structure EncM (w wr : World) (H p : Nat) (prev : List UInt8) (n : Nat) (l : List UInt8) : Prop where
  below : Below w.heap.size w wr
  lo : H = w.heap.size
  pe : p = H + 1
  row : wr.heap[H]? = some (.cells (hdrL prev n).toArray 57 (0, 0))
  pen : PenAt wr p l
theorem EncM.step {w wr w' : World} {H p : Nat} {prev : List UInt8} {n : Nat} {l l' : List UInt8} (h : EncM w wr H p prev n l) (hb : Below p wr w') (hp : PenAt w' p l') : EncM w w' H p prev n l' :=
  ⟨h.below.trans (hb.mono (by rw [h.pe, h.lo]; omega)), h.lo, h.pe, (hb.block H (by rw [h.pe]; omega)).trans h.row, hp⟩
theorem hdr_at {wr : World} {H : Nat} {prev : List UInt8} {n : Nat} (h : wr.heap[H]? = some (.cells (hdrL prev n).toArray 57 (0, 0))) (hp : prev.length = 32) :
    wr.cell? ⟨H, 0, none⟩ = some (.int .u32 0) ∧ wr.cell? ⟨H, 65, none⟩ = some (.int .u32 0) ∧ wr.cell? ⟨H, 66, none⟩ = some (.int .u32 0) ∧ wr.cell? ⟨H, 67, none⟩ = some (.int .u32 (n : Int)) ∧
    BytesAt wr (.slice (some ⟨H, 1, none⟩) 32 32) prev ∧ BytesAt wr (.slice (some ⟨H, 33, none⟩) 32 32) (Sha.zeros 32) := by
  have hz : (Sha.zeros 32).length = 32 := rfl
  have hlt := (Array.getElem?_eq_some_iff.1 h).1
  have e : ∀ j, wr.cell? ⟨H, j, none⟩ = (hdrL prev n)[j]? := fun j => (cell_of_row _ _ _ _ _ _ h).trans (by rw [List.getElem?_toArray])
  have e1 : ∀ j, (hdrL prev n)[1 + j]? = (prev.map V8 ++ ((Sha.zeros 32).map V8 ++ [.int .u32 0, .int .u32 0, .int .u32 (n : Int)]))[j]? := fun j => by
    rw [Nat.add_comm]; rfl
  have e2 : ∀ j, (hdrL prev n)[33 + j]? = ((Sha.zeros 32).map V8 ++ [.int .u32 0, .int .u32 0, .int .u32 (n : Int)])[j]? := fun j => by
    rw [show 33 + j = 1 + (32 + j) by omega, e1, List.getElem?_append_right (by simp [hp]), List.length_map, hp]
    congr 1; omega
  have e3 : ∀ j, (hdrL prev n)[65 + j]? = ([.int .u32 0, .int .u32 0, .int .u32 (n : Int)] : List Value)[j]? := fun j => by
    rw [show 65 + j = 33 + (32 + j) by omega, e2, List.getElem?_append_right (by simp [hz]), List.length_map, hz]
    congr 1; omega
  refine ⟨e 0, (e 65).trans (e3 0), (e 66).trans (e3 1), (e 67).trans (e3 2), .inr ⟨H, 1, 32, by rw [hp], by omega, by unfold maxLen; omega, hlt, fun j u hu => ?_⟩, .inr ⟨H, 33, 32, by rw [hz], by omega, by unfold maxLen; omega, hlt, fun j u hu => ?_⟩⟩
  · have hj := (List.getElem?_eq_some_iff.1 hu).1
    rw [e, e1, List.getElem?_append_left hj]
    exact hu
  · have hj := (List.getElem?_eq_some_iff.1 hu).1
    rw [e, e2, List.getElem?_append_left hj]
    exact hu
set_option maxRecDepth 100000 in
set_option maxHeartbeats 1000000 in
theorem enc_any (prev : List UInt8) (n : Nat) (hp : prev.length = 32) (hn : n < 4294967296) (w : World) :
    Calls Try.prog 113 #[.agg (hdrL prev n).toArray] w fun e w' => ∃ v, e = .returned v ∧ BytesAt w' v (encL prev n) ∧ Below w.heap.size w w' := by
  obtain ⟨W1, hW1, hb1, hn1, hn2, hsz⟩ := two_new w (.cells (hdrL prev n).toArray 57) (.cells #[.slice none 0 0] 186)
  obtain ⟨H, hH⟩ : ∃ H, H = w.heap.size := ⟨_, rfl⟩
  obtain ⟨p, hpe⟩ : ∃ p, p = H + 1 := ⟨_, rfl⟩
  have HM : Hid (EncM w W1 H p prev n []) := Lib.hid ⟨hb1, hH, hpe, by rw [hH]; exact hn1, .slice none 0 0, by rw [hpe, hH]; exact hn2, rfl, .inl ⟨rfl, rfl⟩⟩
  obtain ⟨c0, c65, c66, c67, hv1, hv2⟩ := hdr_at HM.out.row hp
  have HH := Lib.hid hH
  have HPE := Lib.hid hpe
  have HP := Lib.hid hp
  have HN := Lib.hid hn
  clear hb1 hn1 hn2 hsz hH hpe hp hn c65 c66 c67 hv1 hv2
  rw [HH.out] at c0
  go_enter Try.func113, Try.ntmps113
  go_wp2_with fail
  rw [← HH.out, ← HPE.out]
  refine (fixed_any p 0 [] (by simp) (by omega) W1 HM.out.pen).mono ?_
  rintro e W2 ⟨rfl, hp2, hb2⟩
  have HM2 := Lib.hid (HM.out.step hb2 hp2)
  clear hp2 hb2 hW1 HM c0
  go_wp2_with fail
  obtain ⟨c0, c65, c66, c67, hv1, hv2⟩ := hdr_at HM2.out.row HP.out
  have C65 := Lib.hid c65
  have C66 := Lib.hid c66
  have C67 := Lib.hid c67
  have HV1 := Lib.hid hv1
  have HV2 := Lib.hid hv2
  have hb3 : ∀ t, Below W2.heap.size W2 (W2.alloc (.cells #[.slice (some ⟨H, 1, none⟩) 32 32, .slice (some ⟨H, 33, none⟩) 32 32] t)).drew := fun t => ((Below.refl _ _).alloc (Nat.le_refl _) _).drew
  have HB3 := Lib.hid hb3
  clear c0 c65 c66 c67 hv1 hv2 hb3
  go_region_with (go_at_call 136; refine (raw_any p W2.heap.size 0 2 (.slice (some ⟨H, 1, none⟩) 32 32) (.slice (some ⟨H, 33, none⟩) 32 32) _ prev (Sha.zeros 32) (by simp [leB]) HP.out rfl (Nat.le_refl _) _ (HM2.out.pen.below (HB3.out _)) (by simp) (cell_of_row _ _ _ _ _ _ (heap_alloc_new W2 _)) (cell_of_row _ _ _ _ _ _ (heap_alloc_new W2 _)) (HV1.out.below (HB3.out _)) (HV2.out.below (HB3.out _))).mono ?_; rintro e W3 ⟨rfl, hp3, hb3⟩)
  have HM3 := Lib.hid (HM2.out.step (((HB3.out _).mono (Nat.le_of_lt HM2.out.pen.lt)).trans hb3) hp3)
  obtain ⟨c0, c65, c66, c67, hv1, hv2⟩ := hdr_at HM3.out.row HP.out
  clear hp3 hb3 C65 C66 C67 HV1 HV2 HB3 HM2 hv1 hv2 c0
  have i0 : ∀ w, (Instr.index 189 (.agg #[.int .u32 0, .int .u32 0, .int .u32 (n : Int)]) (.int .i64 0)).run Try.prog w = .ok (.int .u32 0) w := fun _ => by kernel_rfl
  have i1 : ∀ w, (Instr.index 189 (.agg #[.int .u32 0, .int .u32 0, .int .u32 (n : Int)]) (.int .i64 1)).run Try.prog w = .ok (.int .u32 0) w := fun _ => by kernel_rfl
  have i2 : ∀ w, (Instr.index 189 (.agg #[.int .u32 0, .int .u32 0, .int .u32 (n : Int)]) (.int .i64 2)).run Try.prog w = .ok (.int .u32 (n : Int)) w := fun _ => by kernel_rfl
  go_wp2_with fail
  clear c65 c66 c67
  go_loopw [26] (fun i wr => ∃ k : Nat, k ≤ 3 ∧ i = .int .i64 k ∧ EncM w wr H p prev n (leB 4 0 ++ (prev ++ Sha.zeros 32) ++ ([leB 4 0, leB 4 0, leB 4 n].take k).flatten)) (fun i _ => 3 - (intOf i).toNat)
  case atStart => exact ⟨0, by omega, rfl, by simpa using HM3.out⟩
  case round =>
    obtain ⟨k, hk, rfl, hm⟩ := hrel
    have HM4 := Lib.hid hm
    clear hm HM3
    obtain rfl | rfl | rfl | rfl : k = 0 ∨ k = 1 ∨ k = 2 ∨ k = 3 := by omega
    · as_aux_lemma =>
        go_wp2_with fail
        refine (fixed_any p 0 _ (by simp [leB_length, HP.out, Sha.zeros]) (by omega) wr HM4.out.pen).mono ?_
        rintro e W5 ⟨rfl, hp5, hb5⟩
        have HM5 := Lib.hid (HM4.out.step hb5 hp5)
        clear hp5 hb5
        go_wp2_with fail
        exact ⟨⟨1, by omega, rfl, by simpa using HM5.out⟩, by decide⟩
    · as_aux_lemma =>
        go_wp2_with fail
        refine (fixed_any p 0 _ (by simp [leB_length, HP.out, Sha.zeros]) (by omega) wr HM4.out.pen).mono ?_
        rintro e W5 ⟨rfl, hp5, hb5⟩
        have HM5 := Lib.hid (HM4.out.step hb5 hp5)
        clear hp5 hb5
        go_wp2_with fail
        exact ⟨⟨2, by omega, rfl, by simpa using HM5.out⟩, by decide⟩
    · as_aux_lemma =>
        have hn0 : (n : Int) < 4294967296 := by have := HN.out; omega
        go_wp2_with fail
        refine (fixed_any p n _ (by simp [leB_length, HP.out, Sha.zeros]) HN.out wr HM4.out.pen).mono ?_
        rintro e W5 ⟨rfl, hp5, hb5⟩
        have HM5 := Lib.hid (HM4.out.step hb5 hp5)
        clear hp5 hb5
        go_wp2_with fail
        exact ⟨⟨3, by omega, rfl, by simpa using HM5.out⟩, by decide⟩
    · have he : leB 4 0 ++ (prev ++ Sha.zeros 32) ++ ([leB 4 0, leB 4 0, leB 4 n].take 3).flatten = encL prev n := by simp [encL]
      rw [he] at HM4
      go_wp2_with fail
      refine (all_any p (encL prev n) (by simp [encL, leB_length, HP.out, Sha.zeros]) wr HM4.out.pen).mono ?_
      rintro e W5 ⟨v5, rfl, hv5, hb5⟩
      have HV5 := Lib.hid hv5
      have HB5 := Lib.hid (HM4.out.below.trans (hb5.mono HM4.out.below.size))
      clear hv5 hb5
      go_wp2_with fail
      go_ret
      exact ⟨v5, rfl, HV5.out, HB5.out⟩
end Go.Proofs.Ytdecbimklomdjaa
namespace Go.Proofs.Ytdecbimklomdjaa
open Go Go.RowKit Go.Shelf
/-- A block's cells: its header, and no transactions. -/
def blkL (prev : List UInt8) (n : Nat) : List Value := hdrL prev n ++ [.slice none 0 0]
/-- A block's hash, and the block. -/
def oneL (x prev : List UInt8) (n : Nat) : List Value := x.map V8 ++ blkL prev n
/-- A header's hash. -/
def hh (prev : List UInt8) (n : Nat) : List UInt8 := twice (encL prev n)
theorem hh_length (prev : List UInt8) (n : Nat) : (hh prev n).length = 32 := twice_length _
theorem blkL_length (prev : List UInt8) (n : Nat) (h : prev.length = 32) : (blkL prev n).length = 69 := by
  rw [blkL, List.length_append, hdrL_length prev n h]; rfl
theorem oneL_length (x prev : List UInt8) (n : Nat) (hx : x.length = 32) (h : prev.length = 32) : (oneL x prev n).length = 101 := by
  rw [oneL, List.length_append, List.length_map, hx, blkL_length prev n h]
set_option maxRecDepth 100000 in
theorem built57 : ∀ (prev : List UInt8) (n : Nat), prev.length = 32 → Try.prog.built 57 [(1, .agg (bytesA prev)), (5, .int .u32 (n : Int))] = some (hdrL prev n).toArray
  | [c0, c1, c2, c3, c4, c5, c6, c7, c8, c9, c10, c11, c12, c13, c14, c15, c16, c17, c18, c19, c20, c21, c22, c23, c24, c25, c26, c27, c28, c29, c30, c31], n, _ => by kernel_rfl
set_option maxRecDepth 100000 in
theorem built60 : ∀ (prev : List UInt8) (n : Nat), prev.length = 32 → Try.prog.built 60 [(0, .agg (hdrL prev n).toArray)] = some (blkL prev n).toArray
  | [c0, c1, c2, c3, c4, c5, c6, c7, c8, c9, c10, c11, c12, c13, c14, c15, c16, c17, c18, c19, c20, c21, c22, c23, c24, c25, c26, c27, c28, c29, c30, c31], n, _ => by kernel_rfl
set_option maxRecDepth 100000 in
theorem built139 : ∀ (x prev : List UInt8) (n : Nat), x.length = 32 → prev.length = 32 → Try.prog.built 139 [(0, .agg (bytesA x)), (1, .agg (blkL prev n).toArray)] = some (oneL x prev n).toArray
  | [d0, d1, d2, d3, d4, d5, d6, d7, d8, d9, d10, d11, d12, d13, d14, d15, d16, d17, d18, d19, d20, d21, d22, d23, d24, d25, d26, d27, d28, d29, d30, d31], [c0, c1, c2, c3, c4, c5, c6, c7, c8, c9, c10, c11, c12, c13, c14, c15, c16, c17, c18, c19, c20, c21, c22, c23, c24, c25, c26, c27, c28, c29, c30, c31], n, _, _ => by kernel_rfl
theorem size57 (prev : List UInt8) (n : Nat) (h : prev.length = 32) : (Try.prog.info? 57).map (·.size) = some (hdrL prev n).toArray.size := by
  rw [List.size_toArray, hdrL_length prev n h]; kernel_rfl
theorem size60 (prev : List UInt8) (n : Nat) (h : prev.length = 32) : (Try.prog.info? 60).map (·.size) = some (blkL prev n).toArray.size := by
  rw [List.size_toArray, blkL_length prev n h]; kernel_rfl
theorem size139 (x prev : List UInt8) (n : Nat) (hx : x.length = 32) (h : prev.length = 32) : (Try.prog.info? 139).map (·.size) = some (oneL x prev n).toArray.size := by
  rw [List.size_toArray, oneL_length x prev n hx h]; kernel_rfl
theorem one_hdr (prev : List UInt8) (n : Nat) : ∀ v ∈ hdrL prev n, v.oneCell' = true := by
  intro v hv
  simp only [hdrL, List.mem_cons, List.mem_append, List.mem_map, List.not_mem_nil, or_false] at hv
  rcases hv with rfl | ⟨_, _, rfl⟩ | ⟨_, _, rfl⟩ | rfl | rfl | rfl <;> rfl
theorem one_blk (prev : List UInt8) (n : Nat) : ∀ v ∈ blkL prev n, v.oneCell' = true := by
  intro v hv
  simp only [blkL, List.mem_append, List.mem_cons, List.not_mem_nil, or_false] at hv
  rcases hv with hv | rfl
  · exact one_hdr prev n v hv
  · rfl
theorem one_one (x prev : List UInt8) (n : Nat) : ∀ v ∈ oneL x prev n, v.oneCell' = true := by
  intro v hv
  simp only [oneL, List.mem_append, List.mem_map] at hv
  rcases hv with ⟨_, _, rfl⟩ | hv
  · rfl
  · exact one_blk prev n v hv
theorem all_cells {l : List Value} (h : ∀ v ∈ l, v.oneCell' = true) : l.toArray.all (·.oneCell') = true := by
  rw [List.all_toArray]; exact List.all_eq_true.2 h
set_option maxRecDepth 100000 in
set_option maxHeartbeats 1000000 in
theorem bhash_any (prev : List UInt8) (n : Nat) (hp : prev.length = 32) (hn : n < 4294967296) (w : World) :
    Calls Try.prog 72 #[.agg (hdrL prev n).toArray] w fun e w' => e = .returned (.agg (bytesA (hh prev n))) ∧ Below w.heap.size w w' := by
  obtain ⟨W1, hW1, hb1, hn1, hn2, hsz⟩ := two_new w (.cells (hdrL prev n).toArray 57) (.cells (bytesA (Sha.zeros 32)) 28)
  have HB1 := Lib.hid hb1
  have HN1 := Lib.hid hn1
  have HN2 := Lib.hid hn2
  have HP := Lib.hid hp
  have HN := Lib.hid hn
  clear hb1 hn1 hn2 hsz hp hn
  have HW1 := Lib.hid hW1
  clear hW1
  go_enter Try.func72, Try.ntmps72
  go_upto_region 1 with (fail)
  change Code.wp Try.prog _ _ _ ((w.alloc (.cells (hdrL prev n).toArray 57)).alloc (.cells (bytesA (Sha.zeros 32)) 28))
  rw [HW1.out]
  go_wp2_with ((with_reducible refine wpList_load_row ?_ 57 (.tmp 1) ?_ w.heap.size ?_ 57 _ (0, 0) _ HN1.out Try.underlying57 ?_ (size57 prev n HP.out) ?_); (next => rfl); (next => rfl); (next => rfl); (next => rfl))
  refine (enc_any prev n HP.out HN.out W1).mono ?_
  rintro e W2 ⟨v2, rfl, hv2, hb2⟩
  have HB2 := Lib.hid (HB1.out.trans (hb2.mono HB1.out.size))
  have HN3 := Lib.hid (block_below' hb2 HN2.out)
  have HV2 := Lib.hid hv2
  clear hv2 hb2
  go_wp2_with fail
  refine (twice_any v2 (encL prev n) W2 HV2.out (by simp [encL, leB_length, HP.out, Sha.zeros])).mono ?_
  rintro e W3 ⟨rfl, hb3⟩
  have HB3 := Lib.hid (HB2.out.trans (hb3.mono HB2.out.size))
  have HN4 := Lib.hid (block_below' hb3 HN3.out)
  clear hb3
  go_wp2_with ((with_reducible refine wpList_store_row ?_ 28 (.tmp 2) (.tmp 5) ?_ (w.heap.size + 1) (bytesA (hh prev n)) ?_ ?_ 28 _ HN4.out ?_ ?_ ?_ ?_);  (next => rfl); (next => rfl); (next => rfl); (next => rfl); (next => rw [size_bytesA, hh_length]; kernel_rfl); (next => rw [size_bytesA, size_bytesA, hh_length]; rfl); (next => exact all_bytes _))
  exact bodyPost_ret (results_cell_row rfl _ _ (w.heap.size + 1) 28 (bytesA (hh prev n)) (0, 0) _ rfl (setRow_heap _ _ _ _ _ _ HN4.out) Try.underlying28 rfl (by rw [size_bytesA, hh_length]; kernel_rfl)) rfl ⟨rfl, below_setRow HB3.out (Nat.le_succ _) _⟩
end Go.Proofs.Ytdecbimklomdjaa
