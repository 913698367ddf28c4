/- slices.Clone of words, sha.Roots. -/
import Derived.Test.YtdecbimklomdjaaFirst
import Derived.Test.YtdecbimklomdjaaMonoF
namespace Go.Proofs.Ytdecbimklomdjaa
open Go Go.RowKit Go.Shelf
theorem info55 : (Try.prog.info? 55).map (fun i => (i.zero, i.size, i.bytes)) = some (some (.int .u32 0), 1, 4) := by kernel_rfl
theorem info_parts4 {p : TypeId} {z : Value} {a c : Nat} (h : (Try.prog.info? p).map (fun i => (i.zero, i.size, i.bytes)) = some (some z, a, c)) : ∃ i, Try.prog.info? p = some i ∧ i.zero = some z ∧ i.size = a ∧ i.bytes = c := by
  cases hq : Try.prog.info? p with
  | none => rw [hq] at h; cases h
  | some i =>
    rw [hq] at h
    simp only [Option.map_some, Option.some.injEq, Prod.mk.injEq] at h
    exact ⟨i, rfl, h.1, h.2.1, h.2.2⟩
theorem row_range_w {w : World} {b : Nat} {l : List Sha.W} {t : TypeId} {fr : Nat × Nat} (h : w.heap[b]? = some (.cells (wordsA l) t fr)) : w.rangeAt b 0 (l.map V32) :=
  rangeAt_of_row h 0 _ (fun j v hv => by rw [Nat.zero_add]; unfold wordsA; rw [List.getElem?_toArray]; exact hv)
set_option maxRecDepth 100000 in
theorem clone_words (b c : Nat) (l : List Sha.W) (w : World) (hb : b < w.heap.size) (hl : l.length ≤ 1000) (h : w.rangeAt b 0 (l.map V32)) :
    Calls Try.prog 104 #[.slice (some ⟨b, 0, none⟩) l.length c] w fun e w' => ∃ v, e = .returned v ∧ w'.ownsRow w.heap.size 55 1 v l.length (l.map V32) ∧ Below w.heap.size w w' := by
  have hn := fun w => Lib.run_eql_slice_nil (P := Try.prog) w 97 55 (some ⟨b, 0, none⟩) l.length c 0 0 Try.underlying97
  obtain ⟨i0, hi, hz0, hz1, hz2⟩ := info_parts4 info55
  have HL := Lib.hid hl
  have H := Lib.hid h
  have HI := Lib.hid hi
  have H0 := Lib.hid hz0
  have H1 := Lib.hid hz1
  have H2 := Lib.hid hz2
  clear hl h hi hz0 hz1 hz2
  go_enter Try.func104, Try.ntmps104
  go_wp2_with (at_builtin; refine wpList_append_own _ rfl _ _ 97 rfl w.heap.size 55 i0 (.int .u32 0) 1 4 Try.underlying97 HI.out H0.out H1.out H2.out rfl (by decide) _ 0 [] rfl (World.ownsRow_made w #[] 0 (Nat.le_refl _) (Nat.zero_le _) rfl) ⟨b, 0, none⟩ l.length c (l.map V32) rfl ?c1 ?c2 ?c3 ?c4 ?c5 ?c6 ?_)
  case c1 => simp
  case c2 =>
    intro j u hu
    have hadd : (⟨b, 0, none⟩ : Addr).add j = ⟨b, 0 + j, none⟩ := by unfold Addr.add; split <;> simp_all
    rw [hadd, World.cell?_alloc_lt _ _ _ hb]
    exact H.out j u hu
  case c3 => intro u hu; obtain ⟨x, _, rfl⟩ := List.mem_map.1 hu; rfl
  case c4 => have := HL.out; unfold maxLen; omega
  case c5 => have := HL.out; omega
  case c6 => simp
  intro v' w1 hown hgr _
  have HO : Hid (w1.ownsRow w.heap.size 55 1 v' l.length (l.map V32)) := by simpa [Hid] using hown
  have HG := Lib.hid hgr
  clear hown hgr
  go_wp2
  go_ret
  exact ⟨_, rfl, HO.out, ((Below.refl _ w).alloc (Nat.le_refl _) _).grown HG.out (by simp) (by intro k hk; simp [Value.ownBlock] at hk; omega)⟩
/-- A slice of words that is the caller's own. -/
def OwnW (W : Nat) (w : World) (v : Value) (l : List Sha.W) : Prop := ∃ base, W ≤ base ∧ w.ownsRow base 55 1 v l.length (l.map V32)
theorem OwnW.below {W : Nat} {w w' : World} {v : Value} {l : List Sha.W} (h : OwnW W w v l) (hb : Below w.heap.size w w') : OwnW W w' v l := by
  obtain ⟨base, h1, h2⟩ := h
  refine ⟨base, h1, h2.kept (grownBy_of_below hb none) ?_⟩
  cases v.ownBlock with
  | none => exact .inl rfl
  | some k => exact .inr (by simp)
def rootP (W b2 b3 : Nat) : Nat → Value → World → Prop
  | 0, v, _ => v = .slice (some ⟨b2, 0, none⟩) 8 8
  | 1, v, w => OwnW W w v Sha.iv.list
  | 2, v, _ => v = .slice (some ⟨b3, 0, none⟩) 64 64
  | _, v, w => OwnW W w v Sha.K
theorem rootP_stable (W b2 b3 i : Nat) (v : Value) (w w' : World) (h : rootP W b2 b3 i v w) (hb : Below w.heap.size w w') : rootP W b2 b3 i v w' := by
  unfold rootP at *
  split at h <;> first | exact h | exact h.below hb
set_option maxRecDepth 100000 in
set_option maxHeartbeats 1000000 in
theorem roots_any (w : World) : Calls Try.prog 61 #[] w fun e w' => ∃ v0 v1, e = .returned (.tuple #[v0, v1]) ∧ OwnW w.heap.size w' v0 Sha.iv.list ∧ OwnW w.heap.size w' v1 Sha.K ∧ Below w.heap.size w w' := by
  go_enter Try.func61, Try.ntmps61
  go_wp2_with fail
  refine (squares_any w).mono ?_
  rintro e W1 ⟨rfl, hb1⟩
  go_wp2_with fail
  refine (cubes_any W1).mono ?_
  rintro e W2 ⟨rfl, hb2⟩
  have HB2 := Lib.hid (hb1.trans (hb2.mono hb1.size))
  clear hb1 hb2
  have hne : W2.heap.size + 1 ≠ W2.heap.size := by omega
  go_wp2_with (first | ((with_reducible refine wpList_store_row ?_ 111 (.tmp 2) (.tmp 4) ?_ W2.heap.size (wordsA Sha.iv.list) ?_ ?_ 111 _ (heap_alloc2_old W2 _ _) ?_ ?_ ?_ ?_); (next => rfl); (next => rfl); (next => rfl); (next => rfl); (next => kernel_rfl); (next => rfl); (next => exact all_words _)) | ((with_reducible refine wpList_store_row ?_ 146 (.tmp 3) (.tmp 5) ?_ (W2.heap.size + 1) (wordsA Sha.K) ?_ ?_ 146 _ ((setRow_other _ _ _ _ hne).trans (heap_alloc2_new W2 _ _)) ?_ ?_ ?_ ?_); (next => rfl); (next => rfl); (next => rfl); (next => rfl); (next => kernel_rfl); (next => rfl); (next => exact all_words _)))
  generalize hA : (Obj.cells _ 111) = A
  generalize hB : (Obj.cells _ 146) = C
  obtain ⟨W3, hW3⟩ : ∃ W3, (((W2.alloc A).alloc C).setRow W2.heap.size (wordsA Sha.iv.list)).setRow (W2.heap.size + 1) (wordsA Sha.K) = W3 := ⟨_, rfl⟩
  have hr2 : W3.heap[W2.heap.size]? = some (.cells (wordsA Sha.iv.list) 111 (0, 0)) := by rw [← hW3, setRow_other _ _ _ _ (Ne.symm hne)]; exact setRow_heap _ _ _ _ _ _ ((heap_alloc2_old W2 A C).trans (by rw [← hA]))
  have hr3 : W3.heap[W2.heap.size + 1]? = some (.cells (wordsA Sha.K) 146 (0, 0)) := by rw [← hW3]; exact setRow_heap _ _ _ _ _ _ ((setRow_other _ _ _ _ hne).trans ((heap_alloc2_new W2 A C).trans (by rw [← hB])))
  have hb3 : Below W2.heap.size W2 W3 := by rw [← hW3]; exact below_setRow (below_setRow (((Below.refl _ _).alloc (Nat.le_refl _) _).alloc (by simp) _) (Nat.le_refl _) _) (by omega) _
  rw [hW3]
  have H2 := Lib.hid hr2
  have H3 := Lib.hid hr3
  have HB3 := Lib.hid (HB2.out.trans (hb3.mono HB2.out.size))
  have hW : w.heap.size ≤ W3.heap.size := HB3.out.size
  generalize W2.heap.size = b2 at *
  obtain ⟨b3, hb3e⟩ : ∃ b, b2 + 1 = b := ⟨_, rfl⟩
  rw [hb3e] at H3
  try rw [hb3e]
  clear hr2 hr3 hb3 hW3 hne hb3e hA hB
  refine G.wp_region_mono 4 (by kernel_rfl) (by kernel_rfl) (rootP W3.heap.size b2 b3) (rootP_stable _ b2 b3) ⟨?_, ?_, ?_, ?_, trivial⟩ ?_
  · intro vals a w1 hb hs' hd'
    refine want rfl ?_
    have e2 : a.eval (.tmp 2) = Value.pointer (some ⟨b2, 0, none⟩) := hs' 2 (by decide)
    refine head_val (.slice (some ⟨b2, 0, none⟩) 8 8) ?_ (Below.refl _ _) rfl
    generalize a.eval = ρ at *
    clear hs' hd'
    go_simp
  · intro vals a w1 hb hs' hd'
    refine want rfl ?_
    have e6 : a.eval (.tmp 6) = _ := (hd' 0 (by decide)).1.trans (hd' 0 (by decide)).2
    have ef : a.eval (.func 104) = .func (.func 104) #[] #[] := rfl
    refine head_call (f := 104) (args := #[.slice (some ⟨b2, 0, none⟩) 8 8]) ?_ ((clone_words b2 8 Sha.iv.list w1 (Nat.lt_of_lt_of_le (Array.getElem?_eq_some_iff.1 H2.out).1 hb.size) (by decide) (row_range_w ((hb.block _ (Array.getElem?_eq_some_iff.1 H2.out).1).trans H2.out))).mono fun e w' h => by obtain ⟨v, h1, h2, h3⟩ := h; exact ⟨v, h1, h3, w1.heap.size, hb.size, h2⟩)
    generalize a.eval = ρ at *
    clear hs' hd'
    go_simp
  · intro vals a w1 hb hs' hd'
    refine want rfl ?_
    have e3 : a.eval (.tmp 3) = Value.pointer (some ⟨b3, 0, none⟩) := hs' 3 (by decide)
    refine head_val (.slice (some ⟨b3, 0, none⟩) 64 64) ?_ (Below.refl _ _) rfl
    generalize a.eval = ρ at *
    clear hs' hd'
    go_simp
  · intro vals a w1 hb hs' hd'
    refine want rfl ?_
    have e8 : a.eval (.tmp 8) = _ := (hd' 2 (by decide)).1.trans (hd' 2 (by decide)).2
    have ef : a.eval (.func 104) = .func (.func 104) #[] #[] := rfl
    refine head_call (f := 104) (args := #[.slice (some ⟨b3, 0, none⟩) 64 64]) ?_ ((clone_words b3 64 Sha.K w1 (Nat.lt_of_lt_of_le (Array.getElem?_eq_some_iff.1 H3.out).1 hb.size) (by decide) (row_range_w ((hb.block _ (Array.getElem?_eq_some_iff.1 H3.out).1).trans H3.out))).mono fun e w' h => by obtain ⟨v, h1, h2, h3⟩ := h; exact ⟨v, h1, h3, w1.heap.size, hb.size, h2⟩)
    generalize a.eval = ρ at *
    clear hs' hd'
    go_simp
  intro vals W4 hb4 hall
  have h0 : vals 0 = .slice (some ⟨b2, 0, none⟩) 8 8 := hall 0 (by omega)
  obtain ⟨ba, hba, h1⟩ := hall 1 (by omega)
  have h2 : vals 2 = .slice (some ⟨b3, 0, none⟩) 64 64 := hall 2 (by omega)
  obtain ⟨bc, hbc, h3⟩ := hall 3 (by omega)
  obtain ⟨v1, e1⟩ : ∃ v, vals 1 = v := ⟨_, rfl⟩
  obtain ⟨v3, e3⟩ : ∃ v, vals 3 = v := ⟨_, rfl⟩
  rw [e1] at h1
  rw [e3] at h3
  have HV1 : Hid (OwnW w.heap.size W4 v1 Sha.iv.list) := Lib.hid ⟨ba, Nat.le_trans hW hba, h1⟩
  have HV3 : Hid (OwnW w.heap.size W4 v3 Sha.K) := Lib.hid ⟨bc, Nat.le_trans hW hbc, h3⟩
  have HB4 := Lib.hid (HB3.out.trans (hb4.mono hW))
  clear hall hb4 h1 h3
  simp only [List.take_succ_cons, List.take_zero, List.drop_succ_cons, List.drop_zero, G.putHeads, List.zipIdx_cons, List.zipIdx_nil, List.foldl_cons, List.foldl_nil, Act.put, List.setIfInBounds_toArray, List.set_cons_zero, List.set_cons_succ, Nat.zero_add, Nat.reduceAdd, h0, h2, e1, e3]
  go_wp2_with fail
  exact bodyPost_ret (results_tmp2 rfl _ _ _) rfl ⟨v1, v3, rfl, HV1.out, HV3.out, HB4.out⟩
end Go.Proofs.Ytdecbimklomdjaa
