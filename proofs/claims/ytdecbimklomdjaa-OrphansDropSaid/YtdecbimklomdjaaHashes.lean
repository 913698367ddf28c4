/- purserref07's Hashes of two lists that are the same, Same of two blocks that are. -/
import Derived.Test.YtdecbimklomdjaaOalive
namespace Go.Proofs.Ytdecbimklomdjaa
open Go Go.RowKit Go.Shelf
theorem neq28 (x y : List UInt8) (W : World) (hx : x.length = 32) (hy : y.length = 32) : (binOp .neq 28 (.agg (bytesA x)) (.agg (bytesA y))).run Try.prog W = .ok (.bool (x != y)) W := by
  have h : (binOp .eql 28 (.agg (bytesA x)) (.agg (bytesA y))).run Try.prog W = .ok (.bool (x == y)) W := eql28 x y W hx hy
  unfold binOp at h ⊢
  cases hE : (Op.equal 28 (.agg (bytesA x)) (.agg (bytesA y))).run Try.prog W with
  | halt a b => simp [hE] at h
  | ok b w' =>
    simp [hE] at h ⊢
    obtain ⟨h1, h2⟩ := h
    exact ⟨by rw [h1]; simp [bne], h2⟩
theorem eg28n (x y : Operand) (a b : Array Value) (W : World) : (eqGuard .neq 28 x y (.agg a) (.agg b)).run Try.prog W = .ok () W := by
  simp [eqGuard, go_sem]
theorem neq28_run {o : Oper} {ρ : Operand → Value} {w : World} {x y : Operand} {a b : List UInt8} (ho : o.op = .binOp .neq 28 x y 28) (hx : ρ x = .agg (bytesA a)) (hy : ρ y = .agg (bytesA b)) (ha : a.length = 32) (hb : b.length = 32) : (execOp ρ o).run Try.prog w = .ok (.value (.bool (a != b))) w := by
  simp only [execOp, ho, hx, hy, Sem.run_bind, eg28n, Result.andThen_ok, neq28 a b w ha hb, Sem.run_pure]
theorem index83 (w : World) (g n cap i : Nat) (hi : i < n) : (Instr.indexAt 83 (.slice (some ⟨g, 0, none⟩) n cap) (.int .i64 (i : Int))).run Try.prog w = .ok (.pointer (some ⟨g, i * 32, none⟩)) w := by
  have h0 : (0 : Int) ≤ (i : Int) ∧ (i : Int) < (n : Int) := by omega
  simp [Instr.indexAt, asIntOf, run_underlying Try.underlying83, hi, add_row]
theorem len83 (w : World) (a : Option Addr) (n c : Nat) (t : TypeId) : (Builtin.len_ #[83] t #[.slice a n c]).run Try.prog w = .ok (.int .i64 (n : Int)) w := by
  simp [Builtin.len_, run_underlying Try.underlying83, goInt]
theorem len63 (w : World) (a : Option Addr) (n c : Nat) (t : TypeId) : (Builtin.len_ #[63] t #[.slice a n c]).run Try.prog w = .ok (.int .i64 (n : Int)) w := by
  simp [Builtin.len_, run_underlying Try.underlying63, goInt]
theorem hashCells_at : ∀ (hs : List (List UInt8)) (i : Nat) (y : List UInt8), (∀ z ∈ hs, z.length = 32) → hs[i]? = some y → ∀ j u, (y.map V8)[j]? = some u → (hashCells hs)[i * 32 + j]? = some u
  | [], _, _, _, h, _, _, _ => by simp at h
  | z :: hs, 0, y, h32, h, j, u, hu => by
    have : z = y := by simpa using h
    subst this
    rw [Nat.zero_mul, Nat.zero_add, hashCells, List.flatMap_cons, List.getElem?_append_left (List.getElem?_eq_some_iff.1 hu).1]; exact hu
  | z :: hs, i + 1, y, h32, h, j, u, hu => by
    have hz := h32 z (by simp)
    rw [hashCells, List.flatMap_cons, List.getElem?_append_right (by rw [List.length_map, hz]; omega), List.length_map, hz, show (i + 1) * 32 + j - 32 = i * 32 + j by omega]
    exact hashCells_at hs i y (fun z hz => h32 z (by simp [hz])) (by simpa using h) j u hu
/-- One hash of a row of hashes. -/
theorem row_hash {w : World} {b g n c i : Nat} {hs : List (List UInt8)} {y : List UInt8} (h : w.ownsRow b 28 32 (.slice (some ⟨g, 0, none⟩) n c) n (hashCells hs)) (h32 : ∀ z ∈ hs, z.length = 32) (hi : hs[i]? = some y) : (loadVar 28 ⟨g, i * 32, none⟩).run Try.prog w = .ok (.agg (bytesA y)) w :=
  run_loadVar_mid w g (i * 32) 28 (y.map V8) _ (fun j u hj => by
    have := h.cells (g := g) rfl (i * 32 + j) u (hashCells_at hs i y h32 hi j u hj)
    rwa [add_row] at this) Try.underlying28 rfl (by rw [List.length_map, h32 y (List.mem_of_getElem? hi)]; kernel_rfl)
set_option maxRecDepth 100000 in
set_option maxHeartbeats 2000000 in
theorem hashes_same (u1 u2 : Value) (b1 b2 : Nat) (hs : List (List UInt8)) (h32 : ∀ z ∈ hs, z.length = 32) (hl : hs.length ≤ 100) (w : World) (h1 : w.ownsRow b1 28 32 u1 hs.length (hashCells hs)) (h2 : w.ownsRow b2 28 32 u2 hs.length (hashCells hs)) :
    Calls Try.prog 52 #[u1, u2] w fun e w' => e = .returned (.bool true) ∧ Below w.heap.size w w' := by
  obtain ⟨a1, c1, hu1⟩ := own_slice h1
  obtain ⟨a2, c2, hu2⟩ := own_slice h2
  have H1 := Lib.hid h1
  have H2 := Lib.hid h2
  have H32 := Lib.hid h32
  have HL := Lib.hid hl
  clear h1 h2 h32 hl
  subst hu1
  subst hu2
  go_enter Try.func52, Try.ntmps52
  go_wp2_with fail
  go_loopw [5] (fun t wr => ∃ k : Nat, k ≤ hs.length ∧ t = .int .i64 (k : Int) ∧ Below w.heap.size w wr) (fun t _ => hs.length - (intOf t).toNat)
  case atStart => exact ⟨0, Nat.zero_le _, rfl, Below.refl _ _⟩
  case round =>
    obtain ⟨k, hk, rfl, hb⟩ := hrel
    have HB := Lib.hid hb
    have HK := Lib.hid hk
    clear hb hk
    go_upto_region 4 with (fail)
    refine wp_region_lit ?_
    refine wpList_one (v := .int .i64 (k : Int)) (w' := wr) rfl (by kernel_rfl) ?_
    try (conv => lhs; change (Act.mk #[_,_,_,_,_,_,_,_,_,_,_,_,_,_,_,_,_,_,_,_,_,_,_,_,_,_] _))
    refine wpList_one (w' := wr) rfl (move_run (x := .tmp 0) rfl rfl) ?_
    try (conv => lhs; change (Act.mk #[_,_,_,_,_,_,_,_,_,_,_,_,_,_,_,_,_,_,_,_,_,_,_,_,_,_] _))
    refine wpList_one (w' := wr) rfl (len_run (x := .tmp 12) (v := .slice a1 hs.length c1) rfl rfl (len83 wr a1 hs.length c1 _)) ?_
    try (conv => lhs; change (Act.mk #[_,_,_,_,_,_,_,_,_,_,_,_,_,_,_,_,_,_,_,_,_,_,_,_,_,_] _))
    refine wpList_one (w' := wr) rfl (lss2_run (x := .tmp 11) (y := .tmp 13) (a := k) (b := hs.length) rfl rfl rfl) ?_
    try (conv => lhs; change (Act.mk #[_,_,_,_,_,_,_,_,_,_,_,_,_,_,_,_,_,_,_,_,_,_,_,_,_,_] _))
    by_cases hlt : k < hs.length
    · rw [decide_eq_true hlt]
      obtain ⟨y, hi⟩ : ∃ y, hs[k]? = some y := ⟨hs[k], List.getElem?_eq_getElem hlt⟩
      obtain ⟨g1, _, hv1, _⟩ := own_live H1.out (by omega)
      obtain ⟨g2, _, hv2, _⟩ := own_live H2.out (by omega)
      injection hv1 with hv1 _ _
      injection hv2 with hv2 _ _
      subst hv1
      subst hv2
      have hy := H32.out y (List.mem_of_getElem? hi)
      go_upto_region 6 with (fail)
      obtain ⟨W6, hW6⟩ : ∃ W6, W6 = wr.drew := ⟨_, rfl⟩
      have hb6 : Below w.heap.size w W6 := hW6 ▸ HB.out.drew
      refine wp_region_held_drew (S := (fun w' => w' = W6)) (by kernel_rfl) hW6.symm (fun hS => ?_)
      rw [← hW6]
      replace hS : W6 = W6 := rfl
      have HB6 := Lib.hid hb6
      have HO1 := Lib.hid (H1.out.kept (grownBy_of_below hb6 none) (own_some _))
      have HO2 := Lib.hid (H2.out.kept (grownBy_of_below hb6 none) (own_some _))
      clear hb6 hW6
      try (conv => lhs; change (Act.mk #[_,_,_,_,_,_,_,_,_,_,_,_,_,_,_,_,_,_,_,_,_,_,_,_,_,_] _))
      refine wpAnyH_take (i := 0) (v := .slice (some ⟨g1, 0, none⟩) hs.length c1) rfl (by kernel_rfl) (by kernel_rfl) (by kernel_rfl) (fun _ _ _ h => h) (held_pure rfl (fun w => move_run (x := .tmp 0) rfl rfl)) hS ?_
      try (conv => lhs; change (Act.mk #[_,_,_,_,_,_,_,_,_,_,_,_,_,_,_,_,_,_,_,_,_,_,_,_,_,_] _))
      refine wpAnyH_take (i := 1) (v := .int .i64 (k : Int)) rfl (by kernel_rfl) (by kernel_rfl) (by kernel_rfl) (fun _ _ _ h => h) (held_pure rfl (fun w => move_run (x := .tmp 5) rfl rfl)) hS ?_
      try (conv => lhs; change (Act.mk #[_,_,_,_,_,_,_,_,_,_,_,_,_,_,_,_,_,_,_,_,_,_,_,_,_,_] _))
      refine wpAnyH_take (i := 2) (v := .pointer (some ⟨g1, k * 32, none⟩)) rfl (by kernel_rfl) (by kernel_rfl) (by kernel_rfl) (fun _ _ _ h => h) (held_pure rfl (fun w => index_run rfl (index83 w g1 hs.length c1 k hlt))) hS ?_
      try (conv => lhs; change (Act.mk #[_,_,_,_,_,_,_,_,_,_,_,_,_,_,_,_,_,_,_,_,_,_,_,_,_,_] _))
      refine wpAnyH_take (i := 3) (v := .agg (bytesA y)) rfl (by kernel_rfl) (by kernel_rfl) (by kernel_rfl) (fun _ _ _ h => h) (held_load rfl 28 (.tmp 19) rfl (A := ⟨g1, k * 32, none⟩) rfl (fun w hw => by rw [hw]; exact row_hash HO1.out H32.out hi)) hS ?_
      try (conv => lhs; change (Act.mk #[_,_,_,_,_,_,_,_,_,_,_,_,_,_,_,_,_,_,_,_,_,_,_,_,_,_] _))
      refine wpAnyH_take (i := 4) (v := .slice (some ⟨g2, 0, none⟩) hs.length c2) rfl (by kernel_rfl) (by kernel_rfl) (by kernel_rfl) (fun _ _ _ h => h) (held_pure rfl (fun w => move_run (x := .tmp 1) rfl rfl)) hS ?_
      try (conv => lhs; change (Act.mk #[_,_,_,_,_,_,_,_,_,_,_,_,_,_,_,_,_,_,_,_,_,_,_,_,_,_] _))
      refine wpAnyH_take (i := 5) (v := .int .i64 (k : Int)) rfl (by kernel_rfl) (by kernel_rfl) (by kernel_rfl) (fun _ _ _ h => h) (held_pure rfl (fun w => move_run (x := .tmp 5) rfl rfl)) hS ?_
      try (conv => lhs; change (Act.mk #[_,_,_,_,_,_,_,_,_,_,_,_,_,_,_,_,_,_,_,_,_,_,_,_,_,_] _))
      refine wpAnyH_take (i := 6) (v := .pointer (some ⟨g2, k * 32, none⟩)) rfl (by kernel_rfl) (by kernel_rfl) (by kernel_rfl) (fun _ _ _ h => h) (held_pure rfl (fun w => index_run rfl (index83 w g2 hs.length c2 k hlt))) hS ?_
      try (conv => lhs; change (Act.mk #[_,_,_,_,_,_,_,_,_,_,_,_,_,_,_,_,_,_,_,_,_,_,_,_,_,_] _))
      refine wpAnyH_take (i := 7) (v := .agg (bytesA y)) rfl (by kernel_rfl) (by kernel_rfl) (by kernel_rfl) (fun _ _ _ h => h) (held_load rfl 28 (.tmp 23) rfl (A := ⟨g2, k * 32, none⟩) rfl (fun w hw => by rw [hw]; exact row_hash HO2.out H32.out hi)) hS ?_
      try (conv => lhs; change (Act.mk #[_,_,_,_,_,_,_,_,_,_,_,_,_,_,_,_,_,_,_,_,_,_,_,_,_,_] _))
      refine wpAnyH_take (i := 8) (v := .bool (y != y)) rfl (by kernel_rfl) (by kernel_rfl) (by kernel_rfl) (fun _ _ _ h => h) (held_pure rfl (fun w => neq28_run (x := .tmp 20) (y := .tmp 24) rfl rfl rfl hy hy)) hS ?_
      try (conv => lhs; change (Act.mk #[_,_,_,_,_,_,_,_,_,_,_,_,_,_,_,_,_,_,_,_,_,_,_,_,_,_] _))
      rw [show (y != y) = false by simp]
      refine wpAnyH_done (by kernel_rfl) ?_ _
      have HLT := Lib.hid hlt
      clear hS hi hy hlt HB
      change Exit.then _ _ Exit.normal _ _
      go_upto_region 5 with (fail)
      refine wp_region_lit ?_
      refine wpList_one (v := .int .i64 (k : Int)) (w' := W6) rfl (by kernel_rfl) ?_
      try (conv => lhs; change (Act.mk #[_,_,_,_,_,_,_,_,_,_,_,_,_,_,_,_,_,_,_,_,_,_,_,_,_,_] _))
      refine wpList_one (v := .int .i64 ((k + 1 : Nat) : Int)) (w' := W6) rfl (add1_run rfl rfl (by have := HLT.out; have := HL.out; omega)) ?_
      try (conv => lhs; change (Act.mk #[_,_,_,_,_,_,_,_,_,_,_,_,_,_,_,_,_,_,_,_,_,_,_,_,_,_] _))
      go_wp2_with fail
      go_roundw
      case rel => exact ⟨k + 1, HLT.out, rfl, HB6.out⟩
      case measure => have := HLT.out; simp only [intOf]; omega
    · rw [decide_eq_false hlt]
      go_wp2_with fail
      go_ret
      exact ⟨rfl, HB.out⟩
set_option maxRecDepth 100000 in
theorem load58 {w : World} {A : Addr} {v : Value} (h : w.cell? A = some v) : (loadVar 58 A).run Try.prog w = .ok v w := by
  have : (isAgg 58).run Try.prog w = .ok false w := by kernel_rfl
  simp [loadVar, this, h]
set_option maxRecDepth 100000 in
set_option maxHeartbeats 2000000 in
theorem same55 (w : World) : Calls Try.prog 55 #[.agg (blkL (fst8 1) 0).toArray, .agg (blkL (fst8 1) 0).toArray] w fun e w' => e = .returned (.bool true) ∧ Below w.heap.size w w' := by
  obtain ⟨W1, hW1, hb1, hn1, hn2, hsz⟩ := two_new w (.cells (blkL (fst8 1) 0).toArray 60) (.cells (blkL (fst8 1) 0).toArray 60)
  obtain ⟨B, hB⟩ : ∃ B, B = w.heap.size := ⟨_, rfl⟩
  rw [← hB] at hn1 hn2
  have HB1 := Lib.hid hb1
  have HN1 := Lib.hid hn1
  have HN2 := Lib.hid hn2
  have HW1 := Lib.hid hW1
  have HBE := Lib.hid hB
  clear hb1 hn1 hn2 hW1 hsz hB
  go_enter Try.func55, Try.ntmps55
  go_upto_region 1 with (fail)
  change Code.wp Try.prog _ _ _ ((w.alloc (.cells (blkL (fst8 1) 0).toArray 60)).alloc (.cells (blkL (fst8 1) 0).toArray 60))
  rw [HW1.out, ← HBE.out]
  refine wp_region_lit ?_
  refine wpList_one (v := .pointer (some ⟨B, 0, none⟩)) (w' := W1) rfl (by kernel_rfl) ?_
  try (conv => lhs; change (Act.mk #[_,_,_,_,_,_,_,_,_,_,_,_,_,_,_,_,_,_,_,_,_,_,_,_,_,_,_,_,_,_,_,_,_,_,_,_,_,_,_,_,_] _))
  refine wpList_get rfl 57 (.tmp 7) rfl (A := ⟨B, 0, none⟩) rfl (blk_load57 HN1.out (by rfl)) ?_
  try (conv => lhs; change (Act.mk #[_,_,_,_,_,_,_,_,_,_,_,_,_,_,_,_,_,_,_,_,_,_,_,_,_,_,_,_,_,_,_,_,_,_,_,_,_,_,_,_,_] _))
  refine wpList_one (v := .pointer (some ⟨B + 1, 0, none⟩)) (w' := W1) rfl (by kernel_rfl) ?_
  try (conv => lhs; change (Act.mk #[_,_,_,_,_,_,_,_,_,_,_,_,_,_,_,_,_,_,_,_,_,_,_,_,_,_,_,_,_,_,_,_,_,_,_,_,_,_,_,_,_] _))
  refine wpList_get rfl 57 (.tmp 9) rfl (A := ⟨B + 1, 0, none⟩) rfl (blk_load57 HN2.out (by rfl)) ?_
  try (conv => lhs; change (Act.mk #[_,_,_,_,_,_,_,_,_,_,_,_,_,_,_,_,_,_,_,_,_,_,_,_,_,_,_,_,_,_,_,_,_,_,_,_,_,_,_,_,_] _))
  refine wpList_one (v := .bool false) (w' := W1) rfl (by kernel_rfl) ?_
  try (conv => lhs; change (Act.mk #[_,_,_,_,_,_,_,_,_,_,_,_,_,_,_,_,_,_,_,_,_,_,_,_,_,_,_,_,_,_,_,_,_,_,_,_,_,_,_,_,_] _))
  refine wpList_one (v := .bool false) (w' := W1) rfl (by kernel_rfl) ?_
  try (conv => lhs; change (Act.mk #[_,_,_,_,_,_,_,_,_,_,_,_,_,_,_,_,_,_,_,_,_,_,_,_,_,_,_,_,_,_,_,_,_,_,_,_,_,_,_,_,_] _))
  refine wpList_oneW (v := .pointer (some ⟨B, 68, none⟩)) (w' := W1) (by kernel_rfl) (by kernel_rfl) ?_
  try (conv => lhs; change (Act.mk #[_,_,_,_,_,_,_,_,_,_,_,_,_,_,_,_,_,_,_,_,_,_,_,_,_,_,_,_,_,_,_,_,_,_,_,_,_,_,_,_,_] _))
  refine wpList_oneW (v := .slice none 0 0) (w' := W1) (by kernel_rfl) (load_run (x := .tmp 13) (A := ⟨B, 68, none⟩) rfl rfl (load58 (blk_txs HN1.out (by rfl)))) ?_
  try (conv => lhs; change (Act.mk #[_,_,_,_,_,_,_,_,_,_,_,_,_,_,_,_,_,_,_,_,_,_,_,_,_,_,_,_,_,_,_,_,_,_,_,_,_,_,_,_,_] _))
  refine wpList_oneW (v := .int .i64 0) (w' := W1) (by kernel_rfl) (by kernel_rfl) ?_
  try (conv => lhs; change (Act.mk #[_,_,_,_,_,_,_,_,_,_,_,_,_,_,_,_,_,_,_,_,_,_,_,_,_,_,_,_,_,_,_,_,_,_,_,_,_,_,_,_,_] _))
  refine wpList_oneW (v := .pointer (some ⟨B + 1, 68, none⟩)) (w' := W1) (by kernel_rfl) (by kernel_rfl) ?_
  try (conv => lhs; change (Act.mk #[_,_,_,_,_,_,_,_,_,_,_,_,_,_,_,_,_,_,_,_,_,_,_,_,_,_,_,_,_,_,_,_,_,_,_,_,_,_,_,_,_] _))
  refine wpList_oneW (v := .slice none 0 0) (w' := W1) (by kernel_rfl) (load_run (x := .tmp 16) (A := ⟨B + 1, 68, none⟩) rfl rfl (load58 (blk_txs HN2.out (by rfl)))) ?_
  try (conv => lhs; change (Act.mk #[_,_,_,_,_,_,_,_,_,_,_,_,_,_,_,_,_,_,_,_,_,_,_,_,_,_,_,_,_,_,_,_,_,_,_,_,_,_,_,_,_] _))
  refine wpList_oneW (v := .int .i64 0) (w' := W1) (by kernel_rfl) (by kernel_rfl) ?_
  try (conv => lhs; change (Act.mk #[_,_,_,_,_,_,_,_,_,_,_,_,_,_,_,_,_,_,_,_,_,_,_,_,_,_,_,_,_,_,_,_,_,_,_,_,_,_,_,_,_] _))
  refine wpList_oneW (v := .bool false) (w' := W1) (by kernel_rfl) (by kernel_rfl) ?_
  try (conv => lhs; change (Act.mk #[_,_,_,_,_,_,_,_,_,_,_,_,_,_,_,_,_,_,_,_,_,_,_,_,_,_,_,_,_,_,_,_,_,_,_,_,_,_,_,_,_] _))
  refine wpList_one (v := .bool false) (w' := W1) rfl (by kernel_rfl) ?_
  try (conv => lhs; change (Act.mk #[_,_,_,_,_,_,_,_,_,_,_,_,_,_,_,_,_,_,_,_,_,_,_,_,_,_,_,_,_,_,_,_,_,_,_,_,_,_,_,_,_] _))
  go_wp2_with fail
  go_loopw [5] (fun t wr => t = .int .i64 0 ∧ wr = W1) (fun _ _ => 0)
  case atStart => exact ⟨rfl, rfl⟩
  case round =>
    obtain ⟨rfl, rfl⟩ := hrel
    go_upto_region 4 with (fail)
    refine wp_region_lit ?_
    refine wpList_one (v := .int .i64 0) (w' := wr) rfl (by kernel_rfl) ?_
    try (conv => lhs; change (Act.mk #[_,_,_,_,_,_,_,_,_,_,_,_,_,_,_,_,_,_,_,_,_,_,_,_,_,_,_,_,_,_,_,_,_,_,_,_,_,_,_,_,_] _))
    refine wpList_one (v := .pointer (some ⟨B, 68, none⟩)) (w' := wr) rfl (by kernel_rfl) ?_
    try (conv => lhs; change (Act.mk #[_,_,_,_,_,_,_,_,_,_,_,_,_,_,_,_,_,_,_,_,_,_,_,_,_,_,_,_,_,_,_,_,_,_,_,_,_,_,_,_,_] _))
    refine wpList_one (v := .slice none 0 0) (w' := wr) rfl (load_run (x := .tmp 22) (A := ⟨B, 68, none⟩) rfl rfl (load58 (blk_txs HN1.out (by rfl)))) ?_
    try (conv => lhs; change (Act.mk #[_,_,_,_,_,_,_,_,_,_,_,_,_,_,_,_,_,_,_,_,_,_,_,_,_,_,_,_,_,_,_,_,_,_,_,_,_,_,_,_,_] _))
    refine wpList_one (v := .int .i64 0) (w' := wr) rfl (by kernel_rfl) ?_
    try (conv => lhs; change (Act.mk #[_,_,_,_,_,_,_,_,_,_,_,_,_,_,_,_,_,_,_,_,_,_,_,_,_,_,_,_,_,_,_,_,_,_,_,_,_,_,_,_,_] _))
    refine wpList_one (v := .bool false) (w' := wr) rfl (by kernel_rfl) ?_
    try (conv => lhs; change (Act.mk #[_,_,_,_,_,_,_,_,_,_,_,_,_,_,_,_,_,_,_,_,_,_,_,_,_,_,_,_,_,_,_,_,_,_,_,_,_,_,_,_,_] _))
    go_wp2_with fail
    go_ret
    exact ⟨rfl, HB1.out⟩
end Go.Proofs.Ytdecbimklomdjaa
