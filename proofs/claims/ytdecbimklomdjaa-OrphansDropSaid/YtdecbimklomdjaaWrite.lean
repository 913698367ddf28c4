/- A Sum's Write, and the blocks that it goes through. -/
import Derived.Test.YtdecbimklomdjaaBlocks
import Derived.Test.YtdecbimklomdjaaRange
import Derived.Maps.AppendAt
import Derived.Laws.AppendOwnNone
namespace Go.Proofs.Ytdecbimklomdjaa
open Go Go.RowKit Go.Shelf
attribute [local go_sem] Oper.semAt_some

theorem blocks_any (a : Option Addr) (n c : Nat) (w : World) :
    Calls Try.prog 77 #[.slice a n c] w fun e w' => e = .returned (.func (.func 114) #[] #[.pointer (some ⟨w.heap.size, 0, none⟩)]) ∧ w' = w.alloc (.cells #[.slice a n c] 25) := by
  go_enter Try.func77, Try.ntmps77
  go_wp2
  go_ret
  exact ⟨rfl, rfl⟩
theorem BytesIn.of_owns {w : World} {base : Nat} {v : Value} {l : List UInt8} {t : TypeId} (h : w.ownsRow base t 1 v l.length (l.map V8)) : ∃ g, base ≤ g ∧ BytesIn w g v l := by
  rcases h.2 with ⟨hv, hn⟩ | ⟨g, cap, cur, hv, hb, hg, hc, hm, hs, ht⟩
  · exact ⟨base, Nat.le_refl _, .inl ⟨hv, List.length_eq_zero_iff.1 hn⟩⟩
  · refine ⟨g, hb, .inr ⟨0, cap, hv, hc, hm, (Array.getElem?_eq_some_iff.1 hg).1, fun j u hu => ?_⟩⟩
    rw [Nat.zero_add, cell_of_row w g j cur t (0, 0) hg, ← Array.getElem?_toList]
    rw [← ht, List.getElem?_take] at hu
    split at hu
    · exact hu
    · cases hu
theorem BytesIn.slice {w : World} {g : Nat} {v : Value} {l : List UInt8} (h : BytesIn w g v l) : ∃ a n c, v = .slice a n c := by
  rcases h with ⟨h, _⟩ | ⟨o, c, h, _⟩
  · exact ⟨_, _, _, h⟩
  · exact ⟨_, _, _, h⟩

theorem heap_alloc_lt {w : World} {o : Obj} {i : Nat} (h : i < w.heap.size) : (w.alloc o).heap[i]? = w.heap[i]? :=
  (World.grownBy_alloc w o none).block i h (by simp)
theorem three_old {w : World} (o1 o2 o3 : Obj) {i : Nat} (h : i < w.heap.size) : (((w.alloc o1).alloc o2).alloc o3).heap[i]? = w.heap[i]? := by
  rw [heap_alloc_lt (by simp; omega), heap_alloc_lt (by simp; omega), heap_alloc_lt h]
theorem three_new (w : World) (o1 o2 o3 : Obj) : (((w.alloc o1).alloc o2).alloc o3).heap[w.heap.size]? = some o1 ∧ (((w.alloc o1).alloc o2).alloc o3).heap[w.heap.size + 1]? = some o2 ∧ (((w.alloc o1).alloc o2).alloc o3).heap[w.heap.size + 2]? = some o3 ∧ (((w.alloc o1).alloc o2).alloc o3).heap.size = w.heap.size + 3 := by
  refine ⟨?_, ?_, ?_, by simp⟩
  · rw [heap_alloc_lt (by simp; omega), heap_alloc_lt (by simp)]; exact heap_alloc_new _ _
  · rw [heap_alloc_lt (by simp)]
    have := heap_alloc_new (w.alloc o1) o2
    rwa [show (w.alloc o1).heap.size = w.heap.size + 1 by simp] at this
  · have := heap_alloc_new ((w.alloc o1).alloc o2) o3
    rwa [show ((w.alloc o1).alloc o2).heap.size = w.heap.size + 2 by simp] at this
theorem grown_set_far {w w' : World} {row : Option Nat} (h : w.grownBy w' row) (a : Addr) (v : Value) (hb : w.heap.size ≤ a.block) : w.grownBy (w'.setCell a v) row :=
  ⟨h.os, h.tape, h.output, by have := h.size; simpa using this, fun k hk hn => (heap_setCell_other _ _ _ _ (by omega)).trans (h.block k hk hn)⟩
theorem grown_put_far {w w' : World} {row : Option Nat} (h : w.grownBy w' row) (i : Nat) (o : Obj) (hb : w.heap.size ≤ i) : w.grownBy (w'.putObj i o) row :=
  ⟨h.os, h.tape, h.output, by rw [World.putObj_size]; exact h.size, fun k hk hn => (World.putObj_heap_other (by omega)).trans (h.block k hk hn)⟩
theorem grown_alloc {w w' : World} {row : Option Nat} (h : w.grownBy w' row) (o : Obj) : w.grownBy (w'.alloc o) row :=
  h.trans (World.grownBy_alloc w' o row)

theorem owns_slice {w : World} {base : Nat} {v : Value} {l : List UInt8} {t : TypeId} (h : w.ownsRow base t 1 v l.length (l.map V8)) : ∃ a n c, v = .slice a n c := by
  obtain ⟨_, _, h⟩ := BytesIn.of_owns h
  exact h.slice
/-- The block of a Sum that holds a message. -/
def SumAt (w : World) (b : Nat) (m : List UInt8) : Prop :=
  ∃ r, w.heap[b]? = some (.cells (sumA (Sha.mid m).list r (m.length : Int)) 113 (0, 0)) ∧ ∃ g, g ≠ b ∧ BytesIn w g r (Sha.rest m)

theorem zero_ne {s : Sha.St} (h : s ≠ Sha.St.zero) : (s.list == zeroW 8) = false := by
  rw [beq_eq_false_iff_ne]
  intro e
  apply h
  cases s
  simp [Sha.St.list, zeroW, List.replicate] at e
  simp [Sha.St.zero, e]

set_option maxRecDepth 100000 in
set_option maxHeartbeats 1000000 in
theorem write_some (bs : Nat) (m l : List UInt8) (b o c : Nat) (w : World) (hS : SumAt w bs m) (hz : Sha.mid m ≠ Sha.St.zero) (hb : b < w.heap.size) (hbb : b ≠ bs) (_hlc : l.length ≤ c) (_hcm : c ≤ maxLen) (hr : w.rangeAt b o (l.map V8))
    (hlen : m.length + l.length ≤ 1099511627776) :
    Calls Try.prog 22 #[.pointer (some ⟨bs, 0, none⟩), .slice (some ⟨b, o, none⟩) l.length c] w fun e w' => e = .returned (.pointer (some ⟨bs, 0, none⟩)) ∧ SumAt w' bs (m ++ l) ∧ w.grownBy w' (some bs) := by
  obtain ⟨r, hs, g, hg, hrest⟩ := hS
  have hbs : bs < w.heap.size := (Array.getElem?_eq_some_iff.1 hs).1
  have HS := Lib.hid hs
  have HG := Lib.hid hg
  have HREST := Lib.hid hrest
  have HZ := Lib.hid (zero_ne hz)
  have HR := Lib.hid hr
  have hc8 : w.cell? ⟨bs, 8, none⟩ = some r := cell_of_row _ _ _ _ _ _ hs
  have hc9 : w.cell? ⟨bs, 9, none⟩ = some (.int .u64 (m.length : Int)) := cell_of_row _ _ _ _ _ _ hs
  have hf9 : w.frozen? ⟨bs, 9, none⟩ = false := frozen_of_row _ _ _ _ _ hs
  have HC8 := Lib.hid hc8
  have HC9 := Lib.hid hc9
  have HF9 := Lib.hid hf9
  clear hs hg hrest hz hr hc8 hc9 hf9
  refine calls_of_wp_marks Try.func22 rfl ?_
  simp only [Try.ntmps22, List.size_toArray, List.length_cons, List.length_nil, Nat.reduceAdd, Nat.reduceSub, Array.replicate_succ, Array.replicate_zero, List.push_toArray, List.append_toArray, List.nil_append, List.cons_append]
  go_wp2_with fail
  refine wp_scope_straight ?_
  obtain ⟨W0, hW0⟩ : ∃ W0, w.alloc (.cells #[.pointer (some ⟨bs, 0, none⟩)] 23) = W0 := ⟨_, rfl⟩
  have HW0 := Lib.hid hW0
  have hB0 : Below w.heap.size w W0 := by rw [← hW0]; exact (Below.refl _ _).alloc (Nat.le_refl _) _
  have HB0 := Lib.hid hB0
  have hbox : W0.cell? ⟨w.heap.size, 0, none⟩ = some (.pointer (some ⟨bs, 0, none⟩)) := by rw [← hW0]; simp
  have hS0 : W0.heap[bs]? = some (.cells (sumA (Sha.mid m).list r (m.length : Int)) 113 (0, 0)) := block_below hB0 HS.out
  have HS0 := Lib.hid hS0
  have hc8 : W0.cell? ⟨bs, 8, none⟩ = some r := cell_of_row _ _ _ _ _ _ hS0
  have hc9 : W0.cell? ⟨bs, 9, none⟩ = some (.int .u64 (m.length : Int)) := cell_of_row _ _ _ _ _ _ hS0
  have hf9 : W0.frozen? ⟨bs, 9, none⟩ = false := frozen_of_row _ _ _ _ _ hS0
  rw [hW0]
  clear hW0 hB0 hS0
  go_wp2_with fail
  refine (none_any bs (Sha.mid m).list rfl r _ _ HS0.out).mono ?_
  rintro e w' ⟨rfl, rfl⟩
  rw [HZ.out]
  go_wp2_with fail
  obtain ⟨W1, hW1⟩ : ∃ W1, W0.setCell ⟨bs, 9, none⟩ (.int .u64 ((m.length : Int) + (l.length : Int))) = W1 := ⟨_, rfl⟩
  have hg1 : w.grownBy W1 (some bs) := by rw [← hW1]; exact grown_setCell (grownBy_of_below HB0.out _) _ _ rfl
  have hS1 : W1.heap[bs]? = some (.cells (sumA (Sha.mid m).list r ((m.length : Int) + (l.length : Int))) 113 (0, 0)) := by rw [← hW1, heap_setCell_same _ _ _ _ _ _ HS0.out]; rfl
  have hB1 : W1.heap[w.heap.size]? = some (.cells #[.pointer (some ⟨bs, 0, none⟩)] 23 (0, 0)) := by rw [← hW1, heap_setCell_other _ _ _ _ (by show w.heap.size ≠ bs; omega), ← HW0.out]; exact heap_alloc_new _ _
  have hr1 : BytesIn W1 g r (Sha.rest m) := HREST.out.turns (S := fun i => i = bs) ⟨hg1.size, fun i hi hne => hg1.block i hi (fun e => hne (Option.some.inj e))⟩ HG.out
  have hlen2 : (Sha.rest m).length ≤ 140737488355328 := by rw [Sha.rest_length]; omega
  have HG1 := Lib.hid hg1
  have HS1 := Lib.hid hS1
  have HB1 := Lib.hid hB1
  have HR1 := Lib.hid hr1
  have HL2 := Lib.hid hlen2
  rw [hW1]
  clear hW1 hg1 hS1 hB1 hr1 hlen2 hc8 hc9 hf9 hbox
  refine (clone_any r (Sha.rest m) W1 HR1.out.at HL2.out).mono ?_
  rintro e W2 ⟨v2, rfl, hown, hb2⟩
  have HOWN := Lib.hid hown
  have HB2 := Lib.hid hb2
  clear hown hb2
  obtain ⟨i0, hi, hz0, hz1, hz2⟩ := info_parts info5
  have HI := Lib.hid hi
  have H0 := Lib.hid hz0
  have H1 := Lib.hid hz1
  have H2 := Lib.hid hz2
  clear hi hz0 hz1 hz2
  go_wp2_with (at_builtin; refine wpList_append_own _ rfl (.tmp 24) (.tmp 25) 25 rfl W1.heap.size 5 i0 (.int .u8 0) 1 1 Try.underlying25 HI.out H0.out H1.out H2.out rfl (by decide) v2 (Sha.rest m).length ((Sha.rest m).map V8) rfl HOWN.out ⟨b, o, none⟩ l.length c (l.map V8) rfl ?c1 ?c2 ?c3 ?c4 ?c5 ?c6 ?_)
  case c1 => simp
  case c2 =>
    intro j u hu
    have hadd : (⟨b, o, none⟩ : Addr).add j = ⟨b, o + j, none⟩ := by unfold Addr.add; split <;> simp_all
    rw [hadd, HB2.out.cell (p := ⟨b, o + j, none⟩) (Nat.lt_of_lt_of_le hb HG1.out.size)]
    exact HG1.out.cell (HR.out j u hu) (fun e => hbb (Option.some.inj e))
  case c3 => intro u hu; obtain ⟨x, _, rfl⟩ := List.mem_map.1 hu; rfl
  case c4 => have := HL2.out; unfold maxLen; omega
  case c5 => have := Sha.rest_length m; omega
  case c6 => exact HB2.out.size
  intro v3 W3 hown hgr _
  have hown3 : W3.ownsRow W1.heap.size 5 1 v3 (Sha.rest m ++ l).length ((Sha.rest m ++ l).map V8) := by simpa using hown
  have hbe3 : Below W1.heap.size W1 W3 := HB2.out.grown hgr HB2.out.size (fun k hk => (HOWN.out.lt k hk).1)
  obtain ⟨ga, hga, hb3⟩ : ∃ ga, (w.heap.size ≤ ga ∧ ga < W3.heap.size) ∧ BytesIn W3 ga v3 (Sha.rest m ++ l) := by
    have hx : w.heap.size < W1.heap.size := (Array.getElem?_eq_some_iff.1 HB1.out).1
    have hy : W1.heap.size ≤ W3.heap.size := hbe3.size
    obtain ⟨ga, hga, hb3⟩ := BytesIn.of_owns hown3
    rcases hb3 with h | ⟨o', c', hv, h1, h2, h3, h4⟩
    · exact ⟨w.heap.size, by omega, .inl h⟩
    · exact ⟨ga, ⟨by omega, h3⟩, .inr ⟨o', c', hv, h1, h2, h3, h4⟩⟩
  clear hown hgr hown3
  have HB3 := Lib.hid hb3
  have HBE3 := Lib.hid hbe3
  have HGA := Lib.hid hga
  obtain ⟨a3, n3, c3, rfl⟩ := hb3.slice
  clear hb3 hbe3 hga
  go_wp2_with fail
  refine wp_label ?_
  go_wp2_with (go_at_call 77; refine (blocks_any _ _ _ _).mono ?_; rintro e W4 ⟨rfl, rfl⟩)
  go_outline
  refine wp_rangeFunc rfl (enters_of Try.func114 (by kernel_rfl) rfl) ?_
  rintro rec ⟨fn, hrec⟩
  have HREC := Lib.hid hrec
  clear hrec
  obtain ⟨L, hL⟩ : ∃ L, L = W3.heap.size + 2 := ⟨_, rfl⟩
  obtain ⟨D, hD⟩ : ∃ D, D = W3.heap.size + 1 := ⟨_, rfl⟩
  have hL' : (W3.alloc (Obj.cells #[.slice a3 n3 c3] 25)).heap.size + 1 = L := by simp [hL]
  have hD' : (W3.alloc (Obj.cells #[.slice a3 n3 c3] 25)).heap.size = D := by simp [hD]
  obtain ⟨all, hall⟩ : ∃ all, all = Sha.rest m ++ l := ⟨_, rfl⟩
  obtain ⟨tot, htot⟩ : ∃ tot : Int, tot = (m.length : Int) + (l.length : Int) := ⟨_, rfl⟩
  have hw1 : w.heap.size ≤ W1.heap.size := HG1.out.size
  have hw3 : W1.heap.size ≤ W3.heap.size := HBE3.out.size
  have hw1' : w.heap.size < W1.heap.size := (Array.getElem?_eq_some_iff.1 HB1.out).1
  obtain ⟨hga1, hga2⟩ := HGA.out
  rw [← hall] at HB3
  have HALL := Lib.hid hall
  have HTOT := Lib.hid htot
  clear hall
  rw [hL', hD'] at *
  have hL1 : W3.heap.size + 2 ≤ L ∧ L ≤ W3.heap.size + 2 := by omega
  have hD1 : W3.heap.size + 1 ≤ D ∧ D ≤ W3.heap.size + 1 := by omega
  clear hL hD hL' hD' htot
  refine (blocks1_in L W3.heap.size ga all (fun i => i = bs ∨ i = L) (by intro h; rcases h with h | h <;> omega) ?hg ?hgB
    (fun k W => w.grownBy W (some bs) ∧ W3.heap.size + 3 ≤ W.heap.size ∧ W.heap[L]? = some (.loop (rec .ready none)) ∧ W.heap[D]? = some (.deferred (some [])) ∧ W.heap[w.heap.size]? = some (.cells #[.pointer (some ⟨bs, 0, none⟩)] 23 (0, 0)) ∧ W.heap[bs]? = some (.cells (sumA (Sha.blocks (Sha.mid m) all k).list r tot) 113 (0, 0)))
    (fun W => w.grownBy W (some bs) ∧ W.heap[L]? = some (.loop (rec .ready none)) ∧ W.heap[D]? = some (.deferred (some [])) ∧ W.heap[w.heap.size]? = some (.cells #[.pointer (some ⟨bs, 0, none⟩)] 23 (0, 0)) ∧ ∃ r', W.heap[bs]? = some (.cells (sumA (Sha.blocks (Sha.mid m) all (all.length / 64)).list r' tot) 113 (0, 0)) ∧ ∃ g2, (g2 ≠ bs ∧ g2 ≠ L ∧ g2 ≠ D) ∧ BytesIn W g2 r' (all.drop (64 * (all.length / 64))))
    ?hI ?hY ?hL _ (.slice a3 n3 c3) ?hc ?hf ?hb ?h0).mono ?fin
  case hg => intro h; rcases h with h | h <;> omega
  case hgB => omega
  case hI =>
    rintro k W v ⟨h1, h2, h3, h4, h5, h6⟩
    have hoth : ∀ i, i ≠ W3.heap.size → (W.setCell ⟨W3.heap.size, 0, none⟩ v).heap[i]? = W.heap[i]? := fun i hi => heap_setCell_other _ _ _ _ hi
    exact ⟨grown_set_far h1 _ _ (by show w.heap.size ≤ W3.heap.size; omega), by simpa using h2, (hoth _ (by omega)).trans h3, (hoth _ (by omega)).trans h4, (hoth _ (by omega)).trans h5, (hoth _ (by omega)).trans h6⟩
  case hc => exact cell_of_row _ _ _ _ _ _ (three_new W3 _ _ _).1
  case hf => exact frozen_of_row _ _ _ _ _ (three_new W3 _ _ _).1
  case hb => exact HB3.out.turns (S := fun _ => False) ⟨by rw [(three_new W3 _ _ _).2.2.2]; omega, fun i hi _ => three_old _ _ _ hi⟩ (fun h => h)
  case h0 =>
    obtain ⟨hn1, hn2, hn3, hn4⟩ := three_new W3 (Obj.cells #[.slice a3 n3 c3] 25) (.deferred (some [])) (.loop (rec .ready none))
    refine ⟨grown_alloc (grown_alloc (grown_alloc (HG1.out.trans (grownBy_of_below HBE3.out _)) _) _) _, by rw [hn4]; omega, ?_, ?_, ?_, ?_⟩
    · rw [show L = W3.heap.size + 2 by omega]; exact hn3
    · rw [show D = W3.heap.size + 1 by omega]; exact hn2
    · rw [three_old _ _ _ (by omega)]; exact block_below (HBE3.out) HB1.out
    · rw [three_old _ _ _ (by omega), HTOT.out]; exact block_below (HBE3.out) HS1.out
  case hY =>
    rintro k W v hk ⟨h1, h2, h3, h4, h5, h6⟩ hbv
    have hl64 : ((all.drop (64 * k)).take 64).length = 64 := by rw [List.length_take, List.length_drop]; omega
    obtain ⟨ob, cb, rfl, hlc', hcm', hglt, hra⟩ : ∃ ob cb, v = .slice (some ⟨ga, ob, none⟩) 64 cb ∧ 64 ≤ cb ∧ cb ≤ maxLen ∧ ga < W.heap.size ∧ W.rangeAt ga ob (((all.drop (64 * k)).take 64).map V8) := by
      rcases hbv with ⟨_, h⟩ | ⟨o', c', hv, x1, x2, x3, x4⟩
      · rw [h] at hl64; simp at hl64
      · rw [hl64] at hv x1; exact ⟨o', c', hv, x1, x2, x3, x4⟩
    obtain ⟨W5, hW5⟩ : ∃ W5, W.putObj L (.loop (rec .busy none)) = W5 := ⟨_, rfl⟩
    have hpo : ∀ i, i ≠ L → W5.heap[i]? = W.heap[i]? := fun i hi => by rw [← hW5]; exact World.putObj_heap_other hi
    have hpl : W5.heap[L]? = some (.loop (rec .busy none)) := by rw [← hW5]; exact World.putObj_heap_same (by omega)
    have hps : W5.heap.size = W.heap.size := by rw [← hW5]; simp
    have hbox : W5.cell? ⟨w.heap.size, 0, none⟩ = some (.pointer (some ⟨bs, 0, none⟩)) := cell_of_row _ _ _ _ _ _ ((hpo _ (by omega)).trans h5)
    have HM := Lib.hid (mix_any bs ga ob 64 cb (Sha.blocks (Sha.mid m) all k) r tot ((all.drop (64 * k)).take 64) hl64 (Nat.le_refl _) hlc' hcm' W5 ((hpo _ (by omega)).trans h6) (by omega) (fun j u hu => (World.cell?_of_block (hpo ga (by omega))).trans (hra j u hu)))
    have HG5 : Hid (w.grownBy W5 (some bs)) := Lib.hid (by rw [← hW5]; exact grown_put_far h1 _ _ (by omega))
    have HX5 := Lib.hid ((hpo _ (by omega)).trans h5)
    have HP := Lib.hid hpo
    have HPL := Lib.hid hpl
    refine yieldAt_wide HREC.out h3 rfl ?_
    clear h5 h6 hra hpo hpl hbv hl64
    rw [hW5]
    gi_wp2
    refine ⟨trivial, rfl, (CallsIn.inRound _ (callsIn_wide.2 HM.out)).mono ?_⟩
    rintro e W' ⟨rfl, hg', hs'⟩
    have HG' := Lib.hid hg'
    have HS' := Lib.hid hs'
    clear hg' hs'
    gi_wp2
    have hlt' : W5.heap.size ≤ W'.heap.size := HG'.out.size
    have hof : ∀ i, i < W.heap.size → i ≠ bs → i ≠ L → W'.heap[i]? = W.heap[i]? := fun i hi h1 h2 => (HG'.out.block i (by omega) (fun e => h1 (Option.some.inj e))).trans (HP.out i h2)
    refine ⟨(HG'.out.block L (by omega) (fun e => by have := Option.some.inj e; omega)).trans HPL.out, rfl, ⟨?_, ?_, ?_, ?_, ?_, ?_⟩, ?_, ?_⟩
    · exact grown_put_far (HG5.out.trans HG'.out) _ _ (by omega)
    · simp; omega
    · exact (World.putObj_heap_same (by omega))
    · exact (World.putObj_heap_other (by omega)).trans ((hof _ (by omega) (by omega) (by omega)).trans h4)
    · exact (World.putObj_heap_other (by omega)).trans ((HG'.out.block _ (by omega) (fun e => by have := Option.some.inj e; omega)).trans HX5.out)
    · refine (World.putObj_heap_other (by omega)).trans (HS'.out.trans ?_)
      rw [show Sha.blocks (Sha.mid m) all (k + 1) = Sha.mix (Sha.blocks (Sha.mid m) all k) ((all.drop (64 * k)).take 64) by rw [Nat.mul_comm]; rfl]
    · simp; omega
    · intro i hi hne
      exact (World.putObj_heap_other (fun e => hne (.inr e))).trans (hof i hi (fun e => hne (.inl e)) (fun e => hne (.inr e)))
  case hL =>
    rintro W v ⟨h1, h2, h3, h4, h5, h6⟩ hbv
    obtain ⟨W5, hW5⟩ : ∃ W5, W.putObj L (.loop (rec .busy none)) = W5 := ⟨_, rfl⟩
    have hpo : ∀ i, i ≠ L → W5.heap[i]? = W.heap[i]? := fun i hi => by rw [← hW5]; exact World.putObj_heap_other hi
    have hpl : W5.heap[L]? = some (.loop (rec .busy none)) := by rw [← hW5]; exact World.putObj_heap_same (by omega)
    have hps : W5.heap.size = W.heap.size := by rw [← hW5]; simp
    have hbox : W5.cell? ⟨w.heap.size, 0, none⟩ = some (.pointer (some ⟨bs, 0, none⟩)) := cell_of_row _ _ _ _ _ _ ((hpo _ (by omega)).trans h5)
    have h65 : W5.heap[bs]? = _ := (hpo _ (by omega)).trans h6
    have hc8 : W5.cell? ⟨bs, 8, none⟩ = some r := cell_of_row _ _ _ _ _ _ h65
    have hf8 : W5.frozen? ⟨bs, 8, none⟩ = false := frozen_of_row _ _ _ _ _ h65
    have hbv5 : BytesIn W5 ga v (all.drop (64 * (all.length / 64))) := hbv.turns (S := fun i => i = L) ⟨by omega, fun i _ hi => hpo i hi⟩ (by omega)
    have hlen5 : (all.drop (64 * (all.length / 64))).length ≤ 140737488355328 := by rw [List.length_drop]; omega
    have HG5 : Hid (w.grownBy W5 (some bs)) := Lib.hid (by rw [← hW5]; exact grown_put_far h1 _ _ (by omega))
    have HX5 := Lib.hid ((hpo _ (by omega)).trans h5)
    have HP := Lib.hid hpo
    have HPL := Lib.hid hpl
    have H65 := Lib.hid h65
    have HBV := Lib.hid hbv5
    have HL5 := Lib.hid hlen5
    refine yieldAt_wide HREC.out h3 rfl ?_
    clear h5 h6 hpo hpl hbv h65 hbv5 hlen5
    rw [hW5]
    gi_wp2
    have hmix : Try.prog.follows Departure.mixedOrders = true := by kernel_rfl
    have hd : Below W5.heap.size W5 W5.drew := ⟨rfl, rfl, rfl, Nat.le_refl _, fun _ _ => rfl⟩
    have HD := Lib.hid hd
    have hsz : bs < W5.heap.size ∧ w.heap.size < W5.heap.size := by omega
    clear hd
    gi_region_with_o (refine ⟨trivial, rfl, (CallsIn.inRound _ (callsIn_wide.2 (clone_any v (all.drop (64 * (all.length / 64))) W5.drew (show BytesIn W5.drew ga v _ from HBV.out).at HL5.out))).mono ?_⟩; rintro e W' ⟨v', rfl, hown, hbe⟩; obtain ⟨ao, no, co, rfl⟩ := owns_slice hown; have hbx : W'.cell? ⟨w.heap.size, 0, none⟩ = some (.pointer (some ⟨bs, 0, none⟩)) := (hbe.cell (p := ⟨w.heap.size, 0, none⟩) hsz.2).trans hbox; have hcx : W'.cell? ⟨bs, 8, none⟩ = some r := (hbe.cell (p := ⟨bs, 8, none⟩) hsz.1).trans hc8; have hfx : W'.frozen? ⟨bs, 8, none⟩ = false := (hbe.frozen (p := ⟨bs, 8, none⟩) hsz.1).trans hf8; have HOWN5 := Lib.hid hown; have HBE5 := Lib.hid hbe; clear hown hbe)
    all_goals
      obtain ⟨g2, hg2, hb2⟩ := BytesIn.of_owns HOWN5.out
      have hd1 : W5.drew.heap.size = W5.heap.size := rfl
      have hsz' : W5.heap.size ≤ W'.heap.size := HBE5.out.size
      have hof5 : ∀ i, i < W5.heap.size → W'.heap[i]? = W5.heap[i]? := fun i hi => HBE5.out.block i hi
      have hbs' : W'.heap[bs]? = _ := (hof5 bs hsz.1).trans H65.out
      have hb2' := hb2.turns (S := fun i => i = bs ∨ i = L) (W' := (W'.setCell ⟨bs, 8, none⟩ (.slice ao no co)).putObj L (.loop (rec .ready none))) ⟨by simp, fun i hi hne => (World.putObj_heap_other (fun e => hne (.inr e))).trans (heap_setCell_other _ _ _ _ (fun e => hne (.inl e)))⟩ (by omega)
      have hL' : (W'.setCell ⟨bs, 8, none⟩ (.slice ao no co)).heap[L]? = some (.loop (rec .busy none)) := (heap_setCell_other _ _ _ _ (by show L ≠ bs; omega)).trans ((hof5 L (by omega)).trans HPL.out)
      have hW5 : ∀ i, i < W.heap.size → i ≠ L → i ≠ bs → ((W'.setCell ⟨bs, 8, none⟩ (.slice ao no co)).putObj L (.loop (rec .ready none))).heap[i]? = W.heap[i]? := fun i hi h1 h2 =>
        (World.putObj_heap_other h1).trans ((heap_setCell_other _ _ _ _ h2).trans ((hof5 i (by omega)).trans (HP.out i h1)))
      refine ⟨hL', by simp, ?_, (World.putObj_heap_same (Array.getElem?_eq_some_iff.1 hL').1), ?_, ?_, _, ?_, g2, ⟨by omega, by omega, by omega⟩, hb2'⟩
      · exact grown_put_far (grown_setCell (HG5.out.trans ((grownBy_of_below HD.out (some bs)).trans (grownBy_of_below HBE5.out _))) _ _ rfl) _ _ (by omega)
      · exact (hW5 D (by omega) (by omega) (by omega)).trans h4
      · exact (World.putObj_heap_other (by omega)).trans ((heap_setCell_other _ _ _ _ (by show w.heap.size ≠ bs; omega)).trans ((hof5 _ hsz.2).trans HX5.out))
      · rw [World.putObj_heap_other (by omega), heap_setCell_same _ _ _ _ _ _ hbs']; rfl
  case fin =>
    rintro e W' ⟨⟨v, rfl⟩, hg, hl, hD, hbox, r', hbs, g2, hg2, hb2⟩
    refine ⟨⟨v, rfl⟩, .ready, none, by simp, hl, ?_⟩
    obtain ⟨W6, hW6⟩ : ∃ W6, W'.putObj L (.loop (rec .exhausted none)) = W6 := ⟨_, rfl⟩
    have hpo : ∀ i, i ≠ L → W6.heap[i]? = W'.heap[i]? := fun i hi => by rw [← hW6]; exact World.putObj_heap_other hi
    have hg6 : w.grownBy W6 (some bs) := by rw [← hW6]; exact grown_put_far hg _ _ (by omega)
    have hbx : W6.cell? ⟨w.heap.size, 0, none⟩ = some (.pointer (some ⟨bs, 0, none⟩)) := cell_of_row _ _ _ _ _ _ ((hpo _ (by omega)).trans hbox)
    have HD := Lib.hid ((hpo D (by omega)).trans hD)
    have HBS := Lib.hid ((hpo bs (by omega)).trans hbs)
    have HB2 := Lib.hid (hb2.turns (S := fun i => i = L) (W' := W6) ⟨by rw [← hW6]; simp, fun i _ hi => hpo i hi⟩ (by first | exact hg2.2.1 | exact hg2.2.2))
    have HG6 := Lib.hid hg6
    simp only [hW6]
    clear hl hD hbox hbs hb2 hg6 hpo
    go_wp2_with fail
    refine leave_mark (.inr rfl) rfl HD.out (results_tmp rfl _ _ _) ⟨rfl, ⟨r', ?_, g2, hg2.1, ?_⟩, ?_⟩
    · rw [World.putObj_heap_other (by omega), Sha.mid_append, ← HALL.out, List.length_append, Int.natCast_add, ← HTOT.out]
      exact HBS.out
    · rw [Sha.rest_append, ← HALL.out]
      exact HB2.out.turns (S := fun i => i = D) ⟨by simp, fun i _ hi => World.putObj_heap_other hi⟩ (by first | exact hg2.2.1 | exact hg2.2.2)
    · exact grown_put_far HG6.out _ _ (by omega)
set_option maxRecDepth 100000 in
set_option maxHeartbeats 1000000 in
theorem write_none (bs : Nat) (m l : List UInt8) (hl : l = []) (w : World) (hS : SumAt w bs m) (hz : Sha.mid m ≠ Sha.St.zero)
    (hlen : m.length + l.length ≤ 1099511627776) :
    Calls Try.prog 22 #[.pointer (some ⟨bs, 0, none⟩), .slice none 0 0] w fun e w' => e = .returned (.pointer (some ⟨bs, 0, none⟩)) ∧ SumAt w' bs (m ++ l) ∧ w.grownBy w' (some bs) := by
  obtain ⟨r, hs, g, hg, hrest⟩ := hS
  have hbs : bs < w.heap.size := (Array.getElem?_eq_some_iff.1 hs).1
  have HS := Lib.hid hs
  have HG := Lib.hid hg
  have HREST := Lib.hid hrest
  have HZ := Lib.hid (zero_ne hz)
  have HLN := Lib.hid hl
  have hc8 : w.cell? ⟨bs, 8, none⟩ = some r := cell_of_row _ _ _ _ _ _ hs
  have hc9 : w.cell? ⟨bs, 9, none⟩ = some (.int .u64 (m.length : Int)) := cell_of_row _ _ _ _ _ _ hs
  have hf9 : w.frozen? ⟨bs, 9, none⟩ = false := frozen_of_row _ _ _ _ _ hs
  have HC8 := Lib.hid hc8
  have HC9 := Lib.hid hc9
  have HF9 := Lib.hid hf9
  clear hs hg hrest hz hl hc8 hc9 hf9
  refine calls_of_wp_marks Try.func22 rfl ?_
  simp only [Try.ntmps22, List.size_toArray, List.length_cons, List.length_nil, Nat.reduceAdd, Nat.reduceSub, Array.replicate_succ, Array.replicate_zero, List.push_toArray, List.append_toArray, List.nil_append, List.cons_append]
  go_wp2_with fail
  refine wp_scope_straight ?_
  obtain ⟨W0, hW0⟩ : ∃ W0, w.alloc (.cells #[.pointer (some ⟨bs, 0, none⟩)] 23) = W0 := ⟨_, rfl⟩
  have HW0 := Lib.hid hW0
  have hB0 : Below w.heap.size w W0 := by rw [← hW0]; exact (Below.refl _ _).alloc (Nat.le_refl _) _
  have HB0 := Lib.hid hB0
  have hbox : W0.cell? ⟨w.heap.size, 0, none⟩ = some (.pointer (some ⟨bs, 0, none⟩)) := by rw [← hW0]; simp
  have hS0 : W0.heap[bs]? = some (.cells (sumA (Sha.mid m).list r (m.length : Int)) 113 (0, 0)) := block_below hB0 HS.out
  have HS0 := Lib.hid hS0
  have hc8 : W0.cell? ⟨bs, 8, none⟩ = some r := cell_of_row _ _ _ _ _ _ hS0
  have hc9 : W0.cell? ⟨bs, 9, none⟩ = some (.int .u64 (m.length : Int)) := cell_of_row _ _ _ _ _ _ hS0
  have hf9 : W0.frozen? ⟨bs, 9, none⟩ = false := frozen_of_row _ _ _ _ _ hS0
  rw [hW0]
  clear hW0 hB0 hS0
  go_wp2_with fail
  refine (none_any bs (Sha.mid m).list rfl r _ _ HS0.out).mono ?_
  rintro e w' ⟨rfl, rfl⟩
  rw [HZ.out]
  go_wp2_with fail
  obtain ⟨W1, hW1⟩ : ∃ W1, W0.setCell ⟨bs, 9, none⟩ (.int .u64 (m.length : Int)) = W1 := ⟨_, rfl⟩
  have hg1 : w.grownBy W1 (some bs) := by rw [← hW1]; exact grown_setCell (grownBy_of_below HB0.out _) _ _ rfl
  have hS1 : W1.heap[bs]? = some (.cells (sumA (Sha.mid m).list r ((m.length : Int) + (l.length : Int))) 113 (0, 0)) := by rw [← hW1, heap_setCell_same _ _ _ _ _ _ HS0.out, HLN.out, List.length_nil, Int.natCast_zero, Int.add_zero]; rfl
  have hB1 : W1.heap[w.heap.size]? = some (.cells #[.pointer (some ⟨bs, 0, none⟩)] 23 (0, 0)) := by rw [← hW1, heap_setCell_other _ _ _ _ (by show w.heap.size ≠ bs; omega), ← HW0.out]; exact heap_alloc_new _ _
  have hr1 : BytesIn W1 g r (Sha.rest m) := HREST.out.turns (S := fun i => i = bs) ⟨hg1.size, fun i hi hne => hg1.block i hi (fun e => hne (Option.some.inj e))⟩ HG.out
  have hlen2 : (Sha.rest m).length ≤ 140737488355328 := by rw [Sha.rest_length]; omega
  have HG1 := Lib.hid hg1
  have HS1 := Lib.hid hS1
  have HB1 := Lib.hid hB1
  have HR1 := Lib.hid hr1
  have HL2 := Lib.hid hlen2
  rw [hW1]
  clear hW1 hg1 hS1 hB1 hr1 hlen2 hc8 hc9 hf9 hbox
  refine (clone_any r (Sha.rest m) W1 HR1.out.at HL2.out).mono ?_
  rintro e W2 ⟨v2, rfl, hown, hb2⟩
  have HOWN := Lib.hid hown
  have HB2 := Lib.hid hb2
  clear hown hb2
  obtain ⟨i0, hi, hz0, hz1, hz2⟩ := info_parts info5
  have HI := Lib.hid hi
  have H0 := Lib.hid hz0
  have H1 := Lib.hid hz1
  have H2 := Lib.hid hz2
  clear hi hz0 hz1 hz2
  go_wp2_with (at_builtin; refine wpList_append_own_none rfl (.tmp 24) (.tmp 25) 25 rfl W1.heap.size 5 i0 1 Try.underlying25 HI.out v2 (Sha.rest m).length ((Sha.rest m).map V8) rfl HOWN.out rfl ?_)
  have hown3 : W2.ownsRow W1.heap.size 5 1 v2 (Sha.rest m ++ l).length ((Sha.rest m ++ l).map V8) := by rw [HLN.out, List.append_nil]; exact HOWN.out
  have hbe3 : Below W1.heap.size W1 W2 := HB2.out
  obtain ⟨ga, hga, hb3⟩ : ∃ ga, (w.heap.size ≤ ga ∧ ga < W2.heap.size) ∧ BytesIn W2 ga v2 (Sha.rest m ++ l) := by
    have hx : w.heap.size < W1.heap.size := (Array.getElem?_eq_some_iff.1 HB1.out).1
    have hy : W1.heap.size ≤ W2.heap.size := hbe3.size
    obtain ⟨ga, hga, hb3⟩ := BytesIn.of_owns hown3
    rcases hb3 with h | ⟨o', c', hv, h1, h2, h3, h4⟩
    · exact ⟨w.heap.size, by omega, .inl h⟩
    · exact ⟨ga, ⟨by omega, h3⟩, .inr ⟨o', c', hv, h1, h2, h3, h4⟩⟩
  clear hown3
  have HB3 := Lib.hid hb3
  have HBE3 := Lib.hid hbe3
  have HGA := Lib.hid hga
  obtain ⟨a3, n3, c3, rfl⟩ := hb3.slice
  clear hb3 hbe3 hga
  go_wp2_with fail
  refine wp_label ?_
  go_wp2_with (go_at_call 77; refine (blocks_any _ _ _ _).mono ?_; rintro e W4 ⟨rfl, rfl⟩)
  go_outline
  refine wp_rangeFunc rfl (enters_of Try.func114 (by kernel_rfl) rfl) ?_
  rintro rec ⟨fn, hrec⟩
  have HREC := Lib.hid hrec
  clear hrec
  obtain ⟨L, hL⟩ : ∃ L, L = W2.heap.size + 2 := ⟨_, rfl⟩
  obtain ⟨D, hD⟩ : ∃ D, D = W2.heap.size + 1 := ⟨_, rfl⟩
  have hL' : (W2.alloc (Obj.cells #[.slice a3 n3 c3] 25)).heap.size + 1 = L := by simp [hL]
  have hD' : (W2.alloc (Obj.cells #[.slice a3 n3 c3] 25)).heap.size = D := by simp [hD]
  obtain ⟨all, hall⟩ : ∃ all, all = Sha.rest m ++ l := ⟨_, rfl⟩
  obtain ⟨tot, htot⟩ : ∃ tot : Int, tot = (m.length : Int) + (l.length : Int) := ⟨_, rfl⟩
  have hw1 : w.heap.size ≤ W1.heap.size := HG1.out.size
  have hw3 : W1.heap.size ≤ W2.heap.size := HBE3.out.size
  have hw1' : w.heap.size < W1.heap.size := (Array.getElem?_eq_some_iff.1 HB1.out).1
  obtain ⟨hga1, hga2⟩ := HGA.out
  rw [← hall] at HB3
  have HALL := Lib.hid hall
  have HTOT := Lib.hid htot
  clear hall
  rw [hL', hD'] at *
  have hL1 : W2.heap.size + 2 ≤ L ∧ L ≤ W2.heap.size + 2 := by omega
  have hD1 : W2.heap.size + 1 ≤ D ∧ D ≤ W2.heap.size + 1 := by omega
  clear hL hD hL' hD' htot
  refine (blocks1_in L W2.heap.size ga all (fun i => i = bs ∨ i = L) (by intro h; rcases h with h | h <;> omega) ?hg ?hgB
    (fun k W => w.grownBy W (some bs) ∧ W2.heap.size + 3 ≤ W.heap.size ∧ W.heap[L]? = some (.loop (rec .ready none)) ∧ W.heap[D]? = some (.deferred (some [])) ∧ W.heap[w.heap.size]? = some (.cells #[.pointer (some ⟨bs, 0, none⟩)] 23 (0, 0)) ∧ W.heap[bs]? = some (.cells (sumA (Sha.blocks (Sha.mid m) all k).list r tot) 113 (0, 0)))
    (fun W => w.grownBy W (some bs) ∧ W.heap[L]? = some (.loop (rec .ready none)) ∧ W.heap[D]? = some (.deferred (some [])) ∧ W.heap[w.heap.size]? = some (.cells #[.pointer (some ⟨bs, 0, none⟩)] 23 (0, 0)) ∧ ∃ r', W.heap[bs]? = some (.cells (sumA (Sha.blocks (Sha.mid m) all (all.length / 64)).list r' tot) 113 (0, 0)) ∧ ∃ g2, (g2 ≠ bs ∧ g2 ≠ L ∧ g2 ≠ D) ∧ BytesIn W g2 r' (all.drop (64 * (all.length / 64))))
    ?hI ?hY ?hL _ (.slice a3 n3 c3) ?hc ?hf ?hb ?h0).mono ?fin
  case hg => intro h; rcases h with h | h <;> omega
  case hgB => omega
  case hI =>
    rintro k W v ⟨h1, h2, h3, h4, h5, h6⟩
    have hoth : ∀ i, i ≠ W2.heap.size → (W.setCell ⟨W2.heap.size, 0, none⟩ v).heap[i]? = W.heap[i]? := fun i hi => heap_setCell_other _ _ _ _ hi
    exact ⟨grown_set_far h1 _ _ (by show w.heap.size ≤ W2.heap.size; omega), by simpa using h2, (hoth _ (by omega)).trans h3, (hoth _ (by omega)).trans h4, (hoth _ (by omega)).trans h5, (hoth _ (by omega)).trans h6⟩
  case hc => exact cell_of_row _ _ _ _ _ _ (three_new W2 _ _ _).1
  case hf => exact frozen_of_row _ _ _ _ _ (three_new W2 _ _ _).1
  case hb => exact HB3.out.turns (S := fun _ => False) ⟨by rw [(three_new W2 _ _ _).2.2.2]; omega, fun i hi _ => three_old _ _ _ hi⟩ (fun h => h)
  case h0 =>
    obtain ⟨hn1, hn2, hn3, hn4⟩ := three_new W2 (Obj.cells #[.slice a3 n3 c3] 25) (.deferred (some [])) (.loop (rec .ready none))
    refine ⟨grown_alloc (grown_alloc (grown_alloc (HG1.out.trans (grownBy_of_below HBE3.out _)) _) _) _, by rw [hn4]; omega, ?_, ?_, ?_, ?_⟩
    · rw [show L = W2.heap.size + 2 by omega]; exact hn3
    · rw [show D = W2.heap.size + 1 by omega]; exact hn2
    · rw [three_old _ _ _ (by omega)]; exact block_below (HBE3.out) HB1.out
    · rw [three_old _ _ _ (by omega), HTOT.out]; exact block_below (HBE3.out) HS1.out
  case hY =>
    rintro k W v hk ⟨h1, h2, h3, h4, h5, h6⟩ hbv
    have hl64 : ((all.drop (64 * k)).take 64).length = 64 := by rw [List.length_take, List.length_drop]; omega
    obtain ⟨ob, cb, rfl, hlc', hcm', hglt, hra⟩ : ∃ ob cb, v = .slice (some ⟨ga, ob, none⟩) 64 cb ∧ 64 ≤ cb ∧ cb ≤ maxLen ∧ ga < W.heap.size ∧ W.rangeAt ga ob (((all.drop (64 * k)).take 64).map V8) := by
      rcases hbv with ⟨_, h⟩ | ⟨o', c', hv, x1, x2, x3, x4⟩
      · rw [h] at hl64; simp at hl64
      · rw [hl64] at hv x1; exact ⟨o', c', hv, x1, x2, x3, x4⟩
    obtain ⟨W5, hW5⟩ : ∃ W5, W.putObj L (.loop (rec .busy none)) = W5 := ⟨_, rfl⟩
    have hpo : ∀ i, i ≠ L → W5.heap[i]? = W.heap[i]? := fun i hi => by rw [← hW5]; exact World.putObj_heap_other hi
    have hpl : W5.heap[L]? = some (.loop (rec .busy none)) := by rw [← hW5]; exact World.putObj_heap_same (by omega)
    have hps : W5.heap.size = W.heap.size := by rw [← hW5]; simp
    have hbox : W5.cell? ⟨w.heap.size, 0, none⟩ = some (.pointer (some ⟨bs, 0, none⟩)) := cell_of_row _ _ _ _ _ _ ((hpo _ (by omega)).trans h5)
    have HM := Lib.hid (mix_any bs ga ob 64 cb (Sha.blocks (Sha.mid m) all k) r tot ((all.drop (64 * k)).take 64) hl64 (Nat.le_refl _) hlc' hcm' W5 ((hpo _ (by omega)).trans h6) (by omega) (fun j u hu => (World.cell?_of_block (hpo ga (by omega))).trans (hra j u hu)))
    have HG5 : Hid (w.grownBy W5 (some bs)) := Lib.hid (by rw [← hW5]; exact grown_put_far h1 _ _ (by omega))
    have HX5 := Lib.hid ((hpo _ (by omega)).trans h5)
    have HP := Lib.hid hpo
    have HPL := Lib.hid hpl
    refine yieldAt_wide HREC.out h3 rfl ?_
    clear h5 h6 hra hpo hpl hbv hl64
    rw [hW5]
    gi_wp2
    refine ⟨trivial, rfl, (CallsIn.inRound _ (callsIn_wide.2 HM.out)).mono ?_⟩
    rintro e W' ⟨rfl, hg', hs'⟩
    have HG' := Lib.hid hg'
    have HS' := Lib.hid hs'
    clear hg' hs'
    gi_wp2
    have hlt' : W5.heap.size ≤ W'.heap.size := HG'.out.size
    have hof : ∀ i, i < W.heap.size → i ≠ bs → i ≠ L → W'.heap[i]? = W.heap[i]? := fun i hi h1 h2 => (HG'.out.block i (by omega) (fun e => h1 (Option.some.inj e))).trans (HP.out i h2)
    refine ⟨(HG'.out.block L (by omega) (fun e => by have := Option.some.inj e; omega)).trans HPL.out, rfl, ⟨?_, ?_, ?_, ?_, ?_, ?_⟩, ?_, ?_⟩
    · exact grown_put_far (HG5.out.trans HG'.out) _ _ (by omega)
    · simp; omega
    · exact (World.putObj_heap_same (by omega))
    · exact (World.putObj_heap_other (by omega)).trans ((hof _ (by omega) (by omega) (by omega)).trans h4)
    · exact (World.putObj_heap_other (by omega)).trans ((HG'.out.block _ (by omega) (fun e => by have := Option.some.inj e; omega)).trans HX5.out)
    · refine (World.putObj_heap_other (by omega)).trans (HS'.out.trans ?_)
      rw [show Sha.blocks (Sha.mid m) all (k + 1) = Sha.mix (Sha.blocks (Sha.mid m) all k) ((all.drop (64 * k)).take 64) by rw [Nat.mul_comm]; rfl]
    · simp; omega
    · intro i hi hne
      exact (World.putObj_heap_other (fun e => hne (.inr e))).trans (hof i hi (fun e => hne (.inl e)) (fun e => hne (.inr e)))
  case hL =>
    rintro W v ⟨h1, h2, h3, h4, h5, h6⟩ hbv
    obtain ⟨W5, hW5⟩ : ∃ W5, W.putObj L (.loop (rec .busy none)) = W5 := ⟨_, rfl⟩
    have hpo : ∀ i, i ≠ L → W5.heap[i]? = W.heap[i]? := fun i hi => by rw [← hW5]; exact World.putObj_heap_other hi
    have hpl : W5.heap[L]? = some (.loop (rec .busy none)) := by rw [← hW5]; exact World.putObj_heap_same (by omega)
    have hps : W5.heap.size = W.heap.size := by rw [← hW5]; simp
    have hbox : W5.cell? ⟨w.heap.size, 0, none⟩ = some (.pointer (some ⟨bs, 0, none⟩)) := cell_of_row _ _ _ _ _ _ ((hpo _ (by omega)).trans h5)
    have h65 : W5.heap[bs]? = _ := (hpo _ (by omega)).trans h6
    have hc8 : W5.cell? ⟨bs, 8, none⟩ = some r := cell_of_row _ _ _ _ _ _ h65
    have hf8 : W5.frozen? ⟨bs, 8, none⟩ = false := frozen_of_row _ _ _ _ _ h65
    have hbv5 : BytesIn W5 ga v (all.drop (64 * (all.length / 64))) := hbv.turns (S := fun i => i = L) ⟨by omega, fun i _ hi => hpo i hi⟩ (by omega)
    have hlen5 : (all.drop (64 * (all.length / 64))).length ≤ 140737488355328 := by rw [List.length_drop]; omega
    have HG5 : Hid (w.grownBy W5 (some bs)) := Lib.hid (by rw [← hW5]; exact grown_put_far h1 _ _ (by omega))
    have HX5 := Lib.hid ((hpo _ (by omega)).trans h5)
    have HP := Lib.hid hpo
    have HPL := Lib.hid hpl
    have H65 := Lib.hid h65
    have HBV := Lib.hid hbv5
    have HL5 := Lib.hid hlen5
    refine yieldAt_wide HREC.out h3 rfl ?_
    clear h5 h6 hpo hpl hbv h65 hbv5 hlen5
    rw [hW5]
    gi_wp2
    have hmix : Try.prog.follows Departure.mixedOrders = true := by kernel_rfl
    have hd : Below W5.heap.size W5 W5.drew := ⟨rfl, rfl, rfl, Nat.le_refl _, fun _ _ => rfl⟩
    have HD := Lib.hid hd
    have hsz : bs < W5.heap.size ∧ w.heap.size < W5.heap.size := by omega
    clear hd
    gi_region_with_o (refine ⟨trivial, rfl, (CallsIn.inRound _ (callsIn_wide.2 (clone_any v (all.drop (64 * (all.length / 64))) W5.drew (show BytesIn W5.drew ga v _ from HBV.out).at HL5.out))).mono ?_⟩; rintro e W' ⟨v', rfl, hown, hbe⟩; obtain ⟨ao, no, co, rfl⟩ := owns_slice hown; have hbx : W'.cell? ⟨w.heap.size, 0, none⟩ = some (.pointer (some ⟨bs, 0, none⟩)) := (hbe.cell (p := ⟨w.heap.size, 0, none⟩) hsz.2).trans hbox; have hcx : W'.cell? ⟨bs, 8, none⟩ = some r := (hbe.cell (p := ⟨bs, 8, none⟩) hsz.1).trans hc8; have hfx : W'.frozen? ⟨bs, 8, none⟩ = false := (hbe.frozen (p := ⟨bs, 8, none⟩) hsz.1).trans hf8; have HOWN5 := Lib.hid hown; have HBE5 := Lib.hid hbe; clear hown hbe)
    all_goals
      obtain ⟨g2, hg2, hb2⟩ := BytesIn.of_owns HOWN5.out
      have hd1 : W5.drew.heap.size = W5.heap.size := rfl
      have hsz' : W5.heap.size ≤ W'.heap.size := HBE5.out.size
      have hof5 : ∀ i, i < W5.heap.size → W'.heap[i]? = W5.heap[i]? := fun i hi => HBE5.out.block i hi
      have hbs' : W'.heap[bs]? = _ := (hof5 bs hsz.1).trans H65.out
      have hb2' := hb2.turns (S := fun i => i = bs ∨ i = L) (W' := (W'.setCell ⟨bs, 8, none⟩ (.slice ao no co)).putObj L (.loop (rec .ready none))) ⟨by simp, fun i hi hne => (World.putObj_heap_other (fun e => hne (.inr e))).trans (heap_setCell_other _ _ _ _ (fun e => hne (.inl e)))⟩ (by omega)
      have hL' : (W'.setCell ⟨bs, 8, none⟩ (.slice ao no co)).heap[L]? = some (.loop (rec .busy none)) := (heap_setCell_other _ _ _ _ (by show L ≠ bs; omega)).trans ((hof5 L (by omega)).trans HPL.out)
      have hW5 : ∀ i, i < W.heap.size → i ≠ L → i ≠ bs → ((W'.setCell ⟨bs, 8, none⟩ (.slice ao no co)).putObj L (.loop (rec .ready none))).heap[i]? = W.heap[i]? := fun i hi h1 h2 =>
        (World.putObj_heap_other h1).trans ((heap_setCell_other _ _ _ _ h2).trans ((hof5 i (by omega)).trans (HP.out i h1)))
      refine ⟨hL', by simp, ?_, (World.putObj_heap_same (Array.getElem?_eq_some_iff.1 hL').1), ?_, ?_, _, ?_, g2, ⟨by omega, by omega, by omega⟩, hb2'⟩
      · exact grown_put_far (grown_setCell (HG5.out.trans ((grownBy_of_below HD.out (some bs)).trans (grownBy_of_below HBE5.out _))) _ _ rfl) _ _ (by omega)
      · exact (hW5 D (by omega) (by omega) (by omega)).trans h4
      · exact (World.putObj_heap_other (by omega)).trans ((heap_setCell_other _ _ _ _ (by show w.heap.size ≠ bs; omega)).trans ((hof5 _ hsz.2).trans HX5.out))
      · rw [World.putObj_heap_other (by omega), heap_setCell_same _ _ _ _ _ _ hbs']; rfl
  case fin =>
    rintro e W' ⟨⟨v, rfl⟩, hg, hl, hD, hbox, r', hbs, g2, hg2, hb2⟩
    refine ⟨⟨v, rfl⟩, .ready, none, by simp, hl, ?_⟩
    obtain ⟨W6, hW6⟩ : ∃ W6, W'.putObj L (.loop (rec .exhausted none)) = W6 := ⟨_, rfl⟩
    have hpo : ∀ i, i ≠ L → W6.heap[i]? = W'.heap[i]? := fun i hi => by rw [← hW6]; exact World.putObj_heap_other hi
    have hg6 : w.grownBy W6 (some bs) := by rw [← hW6]; exact grown_put_far hg _ _ (by omega)
    have hbx : W6.cell? ⟨w.heap.size, 0, none⟩ = some (.pointer (some ⟨bs, 0, none⟩)) := cell_of_row _ _ _ _ _ _ ((hpo _ (by omega)).trans hbox)
    have HD := Lib.hid ((hpo D (by omega)).trans hD)
    have HBS := Lib.hid ((hpo bs (by omega)).trans hbs)
    have HB2 := Lib.hid (hb2.turns (S := fun i => i = L) (W' := W6) ⟨by rw [← hW6]; simp, fun i _ hi => hpo i hi⟩ (by first | exact hg2.2.1 | exact hg2.2.2))
    have HG6 := Lib.hid hg6
    simp only [hW6]
    clear hl hD hbox hbs hb2 hg6 hpo
    go_wp2_with fail
    refine leave_mark (.inr rfl) rfl HD.out (results_tmp rfl _ _ _) ⟨rfl, ⟨r', ?_, g2, hg2.1, ?_⟩, ?_⟩
    · rw [World.putObj_heap_other (by omega), Sha.mid_append, ← HALL.out, List.length_append, Int.natCast_add, ← HTOT.out]
      exact HBS.out
    · rw [Sha.rest_append, ← HALL.out]
      exact HB2.out.turns (S := fun i => i = D) ⟨by simp, fun i _ hi => World.putObj_heap_other hi⟩ (by first | exact hg2.2.1 | exact hg2.2.2)
    · exact grown_put_far HG6.out _ _ (by omega)
end Go.Proofs.Ytdecbimklomdjaa
