/- sha's none, squares, cubes, New; slices.Clone of bytes: their contracts. -/
import Derived.Test.YtdecbimklomdjaaSha1
namespace Go.Proofs.Ytdecbimklomdjaa
open Go.RowKit

theorem sz_u32 (w : World) : (sizeOf 55).run Try.prog w = .ok 1 w := by kernel_rfl
theorem guard111 : Try.prog.eqGuardType Try.prog.depth 111 = false := by kernel_rfl
theorem zero8 : wordsA (zeroW 8) = #[.int .u32 0, .int .u32 0, .int .u32 0, .int .u32 0, .int .u32 0, .int .u32 0, .int .u32 0, .int .u32 0] := rfl
theorem eql111 (l : List Sha.W) (hl : l.length = 8) (w : World) : (Op.equalIn 10000 111 (.agg (l.map V32).toArray) (.agg #[.int .u32 0, .int .u32 0, .int .u32 0, .int .u32 0, .int .u32 0, .int .u32 0, .int .u32 0, .int .u32 0])).run Try.prog w = .ok (l == zeroW 8) w :=
  run_equalIn_words w 9998 111 55 8 Try.underlying111 Try.underlying55 sz_u32 l (zeroW 8) hl rfl

set_option maxRecDepth 100000 in
theorem none_any (b : Nat) (l : List Sha.W) (hl : l.length = 8) (r : Value) (n : Int) (w : World) (h : w.heap[b]? = some (.cells (sumA l r n) 113 (0, 0))) :
    Calls Try.prog 75 #[.pointer (some ⟨b, 0, none⟩)] w fun e w' => e = .returned (.bool (l == zeroW 8)) ∧ w = w' := by
  have HR := Lib.hid (rangeAt_of_row h 0 (l.map V32) (sumA_words l r n))
  have hsz : (Try.prog.info? 111).map (·.size) = some (l.map V32).length := by rw [List.length_map, hl]; kernel_rfl
  have he := eql111 l hl
  have hg := guard111
  have HS := Lib.hid hsz
  clear h hsz hl
  go_enter Try.func75, Try.ntmps75
  go_wp2_with ((with_reducible refine wpList_load_w ?_ 111 (.tmp 8) ?_ b 0 ?_ (l.map V32) _ HR.out Try.underlying111 ?_ HS.out ?_); (next => rfl); (next => rfl); (next => rfl); (next => rfl))
  go_ret
  exact ⟨rfl, rfl⟩
theorem none_nil (w : World) :
    Calls Try.prog 75 #[.pointer none] w fun e w' => e = .returned (.bool true) ∧ w = w' := by
  go_enter Try.func75, Try.ntmps75
  go_wp2
  go_ret
  exact ⟨rfl, rfl⟩
theorem squares_any (w : World) :
    Calls Try.prog 74 #[] w fun e w' => e = .returned (.agg (wordsA Sha.iv.list)) ∧ Below w.heap.size w w' := by
  go_enter Try.func74, Try.ntmps74
  go_wp2
  exact bodyPost_ret (results_cell_row rfl _ _ w.heap.size 111 (wordsA Sha.iv.list) (0, 0) _ rfl (heap_alloc_new w _) Try.underlying111 rfl (by kernel_rfl)) rfl ⟨rfl, (Below.refl _ _).alloc (Nat.le_refl _) _⟩

set_option maxRecDepth 100000 in
theorem cubes_any (w : World) :
    Calls Try.prog 103 #[] w fun e w' => e = .returned (.agg (wordsA Sha.K)) ∧ Below w.heap.size w w' := by
  go_enter Try.func103, Try.ntmps103
  go_wp2_with (first | ((with_reducible refine wpList_build_to ?hg 146 ?p ?ho (wordsA Sha.K) ?hf ?h); (case hg => rfl); (case ho => rfl); (case hf => kernel_rfl)) | ((with_reducible refine wpList_store_row ?_ 146 (.tmp 0) (.tmp 1) ?_ w.heap.size (wordsA Sha.K) ?_ ?_ 146 _ (heap_alloc_new w _) ?_ ?_ ?_ ?_);  (next => rfl); (next => rfl); (next => rfl); (next => rfl); (next => kernel_rfl); (next => kernel_rfl);(next => kernel_rfl); rw [World.setRow_alloc_new]))
  exact bodyPost_ret (results_cell_row rfl _ _ w.heap.size 146 (wordsA Sha.K) (0, 0) _ rfl (heap_alloc_new w _) Try.underlying146 rfl (by kernel_rfl)) rfl ⟨rfl, (Below.refl _ _).alloc (Nat.le_refl _) _⟩
theorem new_any (w : World) :
    Calls Try.prog 20 #[] w fun e w' => ∃ b, e = .returned (.pointer (some ⟨b, 0, none⟩)) ∧ w.heap.size ≤ b ∧ Below w.heap.size w w' ∧ w'.heap[b]? = some (.cells (sumA Sha.iv.list (.slice none 0 0) 0) 113 (0, 0)) := by
  go_enter Try.func20, Try.ntmps20
  go_wp2_with (go_at_call 74; refine (squares_any _).mono ?_; rintro e w' ⟨rfl, hb⟩)
  go_ret
  exact ⟨_, rfl, hb.size, hb.alloc hb.size _, heap_alloc_new _ _⟩

theorem info5 : (Try.prog.info? 5).map (fun i => (i.zero, i.size, i.bytes)) = some (some (.int .u8 0), 1, 1) := by kernel_rfl

theorem clone_nil (w : World) :
    Calls Try.prog 76 #[.slice none 0 0] w fun e w' => e = .returned (.slice none 0 0) ∧ w = w' := by
  have hn := fun w => Lib.run_eql_slice_nil (P := Try.prog) w 25 5 none 0 0 0 0 Try.underlying25
  go_enter Try.func76, Try.ntmps76
  go_wp2
  go_ret
  exact ⟨rfl, rfl⟩

theorem clone_some (b o c : Nat) (l : List UInt8) (w : World) (hb : b < w.heap.size) (hl : l.length ≤ 140737488355328) (h : w.rangeAt b o (l.map V8)) :
    Calls Try.prog 76 #[.slice (some ⟨b, o, none⟩) l.length c] w fun e w' => ∃ v, e = .returned v ∧ w'.ownsRow w.heap.size 5 1 v l.length (l.map V8) ∧ Below w.heap.size w w' := by
  have hn := fun w => Lib.run_eql_slice_nil (P := Try.prog) w 25 5 (some ⟨b, o, none⟩) l.length c 0 0 Try.underlying25
  obtain ⟨i0, hi, hz0, hz1, hz2⟩ := info_parts info5
  have HL := Lib.hid hl
  have H := Lib.hid h
  have HI := Lib.hid hi
  have H0 := Lib.hid hz0
  have H1 := Lib.hid hz1
  have H2 := Lib.hid hz2
  clear hl h hi hz0 hz1 hz2
  go_enter Try.func76, Try.ntmps76
  go_wp2_with (at_builtin; refine wpList_append_own _ rfl _ _ 25 rfl w.heap.size 5 i0 (.int .u8 0) 1 1 Try.underlying25 HI.out H0.out H1.out H2.out rfl (by decide) _ 0 [] rfl (World.ownsRow_made w #[] 0 (Nat.le_refl _) (Nat.zero_le _) rfl) ⟨b, o, none⟩ l.length c (l.map V8) rfl ?c1 ?c2 ?c3 ?c4 ?c5 ?c6 ?_)
  case c1 => simp
  case c2 =>
    intro j u hu
    have hadd : (⟨b, o, none⟩ : Addr).add j = ⟨b, o + j, none⟩ := by unfold Addr.add; split <;> simp_all
    rw [hadd, World.cell?_alloc_lt _ _ _ hb]
    exact H.out j u hu
  case c3 => intro u hu; obtain ⟨x, _, rfl⟩ := List.mem_map.1 hu; rfl
  case c4 => have := HL.out; unfold maxLen; omega
  case c5 => have := HL.out; omega
  case c6 => simp
  intro v' w1 hown hgr _
  have HO : Hid (w1.ownsRow w.heap.size 5 1 v' l.length (l.map V8)) := by simpa [Hid] using hown
  have HG := Lib.hid hgr
  clear hown hgr
  go_wp2
  go_ret
  exact ⟨_, rfl, HO.out, ((Below.refl _ w).alloc (Nat.le_refl _) _).grown HG.out (by simp) (by intro k hk; simp [Value.ownBlock] at hk; omega)⟩

/-- slices.Clone of bytes: a new slice that reads as the old one. -/
theorem clone_any (v : Value) (l : List UInt8) (w : World) (h : BytesAt w v l) (hl : l.length ≤ 140737488355328) :
    Calls Try.prog 76 #[v] w fun e w' => ∃ v', e = .returned v' ∧ w'.ownsRow w.heap.size 5 1 v' l.length (l.map V8) ∧ Below w.heap.size w w' := by
  rcases h with ⟨rfl, rfl⟩ | ⟨b, o, c, rfl, _, _, h3, h4⟩
  · refine (clone_nil w).mono ?_
    rintro e w' ⟨rfl, rfl⟩
    exact ⟨_, rfl, World.ownsRow_nil _ _ _ _, Below.refl _ _⟩
  · exact clone_some b o c l w h3 hl h4
end Go.Proofs.Ytdecbimklomdjaa
