/- sha's mix: a block of 64 bytes is taken into the state, as the plain function Sha.mix does. -/
import Derived.Test.YtdecbimklomdjaaSha2
import Derived.Deep.DeepFit
import Derived.Deep.Cut
import Derived.Deep.DeepCutAuto
import Derived.Deep.CutBlock
import Derived.Test.YtdecbimklomdjaaMono
import Derived.Laws.CopyOwn
import Derived.Test.YtdecbimklomdjaaTail
namespace Go.Proofs.Ytdecbimklomdjaa
open Go.RowKit
attribute [local go_sem] w32_div8 w32_div1024 w32_mul256 w32_add w32_or w32_and w32_xor w32_not w32_not' w32_byte

/-- The schedule's variable, k words of it laid. -/
def wL (m : List UInt8) (k : Nat) : List Sha.W := Sha.sched m k ++ zeroW (64 - k)
theorem wL_set (m : List UInt8) (k : Nat) (h : k < 64) : (wordsA (wL m k)).setIfInBounds k (V32 (Sha.wnext m (Sha.sched m k) k)) = wordsA (wL m (k + 1)) := by
  unfold wordsA wL zeroW
  have e : 64 - k = (64 - (k + 1)) + 1 := by omega
  rw [e, List.replicate_succ]
  have hl : (Sha.sched m k).length = k := Sha.sched_length m k
  simp only [List.setIfInBounds_toArray, Sha.sched, List.map_append, List.map_cons, List.append_assoc, List.cons_append, List.nil_append]
  congr 1
  rw [List.set_append, if_neg (by simp [hl])]
  simp [hl]
theorem wL_get (m : List UInt8) (k j : Nat) (hj : j < k) : (wordsA (wL m k))[j]? = some (V32 ((Sha.sched m k).getD j 0)) := by
  unfold wordsA wL
  have hl : (Sha.sched m k).length = k := Sha.sched_length m k
  simp [List.getElem?_append, hl, hj, List.getD]
theorem wL_there (m : List UInt8) (k j : Nat) (hj : j < 64) (hk : k ≤ 64) : ∃ v, (wordsA (wL m k))[j]? = some v := by
  have : j < (wordsA (wL m k)).size := by simp [wordsA, wL, zeroW, Sha.sched_length]; omega
  exact ⟨_, Array.getElem?_eq_getElem this⟩

theorem below_drewN (B : Nat) (w : World) (n : Nat) : Below B w (w.drewN n) := ⟨rfl, rfl, rfl, Nat.le_refl _, fun _ _ => rfl⟩
/-- The eight words of a state, one by one. -/
theorem words8 {w : World} {b : Nat} {cs : Array Value} {t : TypeId} (h : w.heap[b]? = some (.cells cs t (0, 0))) {l : List Sha.W} (hc : ∀ j, j < 8 → cs[j]? = some (V32 (l.getD j 0))) :
    w.cell? ⟨b, 0, none⟩ = some (V32 (l.getD 0 0)) ∧ w.cell? ⟨b, 1, none⟩ = some (V32 (l.getD 1 0)) ∧ w.cell? ⟨b, 2, none⟩ = some (V32 (l.getD 2 0)) ∧ w.cell? ⟨b, 3, none⟩ = some (V32 (l.getD 3 0)) ∧
    w.cell? ⟨b, 4, none⟩ = some (V32 (l.getD 4 0)) ∧ w.cell? ⟨b, 5, none⟩ = some (V32 (l.getD 5 0)) ∧ w.cell? ⟨b, 6, none⟩ = some (V32 (l.getD 6 0)) ∧ w.cell? ⟨b, 7, none⟩ = some (V32 (l.getD 7 0)) := by
  refine ⟨?_, ?_, ?_, ?_, ?_, ?_, ?_, ?_⟩ <;> exact (cell_of_row _ _ _ _ _ _ h).trans (hc _ (by omega))
theorem sumA_get (l : List Sha.W) (hl : l.length = 8) (r : Value) (n : Int) (j : Nat) (hj : j < 8) : (sumA l r n)[j]? = some (V32 (l.getD j 0)) := by
  unfold sumA
  simp [List.getElem?_append, hl, hj, List.getD]
theorem list8 (l : List Sha.W) (hl : l.length = 8) : l = [l.getD 0 0, l.getD 1 0, l.getD 2 0, l.getD 3 0, l.getD 4 0, l.getD 5 0, l.getD 6 0, l.getD 7 0] := by
  match l, hl with
  | [a, b, c, d, e, f, g, h], _ => rfl
theorem all_words (l : List Sha.W) : (wordsA l).all (·.oneCell') = true :=
  all_oneCell_toArray fun v hv => by obtain ⟨x, _, rfl⟩ := List.mem_map.1 hv; rfl
/-- A state's words, cell by cell. -/
theorem wordsSt {w : World} {b : Nat} {s : Sha.St} {t : TypeId} (h : w.heap[b]? = some (.cells (wordsA s.list) t (0, 0))) :
    w.cell? ⟨b, 0, none⟩ = some (V32 s.a) ∧ w.cell? ⟨b, 1, none⟩ = some (V32 s.b) ∧ w.cell? ⟨b, 2, none⟩ = some (V32 s.c) ∧ w.cell? ⟨b, 3, none⟩ = some (V32 s.d) ∧
    w.cell? ⟨b, 4, none⟩ = some (V32 s.e) ∧ w.cell? ⟨b, 5, none⟩ = some (V32 s.f) ∧ w.cell? ⟨b, 6, none⟩ = some (V32 s.g) ∧ w.cell? ⟨b, 7, none⟩ = some (V32 s.h) := by
  refine ⟨?_, ?_, ?_, ?_, ?_, ?_, ?_, ?_⟩ <;> exact (cell_of_row _ _ _ _ _ _ h)
theorem wordsA_get (l : List Sha.W) (j : Nat) (h : j < l.length) : (wordsA l)[j]? = some (V32 (l.getD j 0)) := by
  unfold wordsA; simp [h, List.getD]
def kAt (k : Nat) : Sha.W := Sha.K.getD k 0
def wAt (m : List UInt8) (k : Nat) : Sha.W := (Sha.sched m 64).getD k 0
theorem w32_mod2 (x y : Sha.W) : (w32 x + w32 y) % (4294967296 : Int) = w32 (x + y) := by
  unfold w32; rw [BitVec.toNat_add]; simp
theorem w32_mod4 (x y z u : Sha.W) : (w32 x + w32 y + w32 z + w32 u) % (4294967296 : Int) = w32 (x + y + z + u) := by
  rw [← w32_mod2 (x + y + z) u, ← w32_mod2 (x + y) z, ← w32_mod2 x y]; omega
/-- The eight words, one place on. -/
def slid (s : Sha.St) : Array Value := #[V32 s.a, V32 s.a, V32 s.b, V32 s.c, V32 s.d, V32 s.e, V32 s.f, V32 s.g]
/-- The state while the words are added up, k of them done. -/
def mixL (s v : Sha.St) (k : Nat) : List Sha.W := List.zipWith (· + ·) (s.list.take k) (v.list.take k) ++ s.list.drop k
theorem mixL_get (s v : Sha.St) (r : Value) (n : Int) (k : Nat) (h : k < 8) : (sumA (mixL s v k) r n)[k]? = some (V32 (s.list.getD k 0)) := by
  match k, h with
  | 0, _ | 1, _ | 2, _ | 3, _ | 4, _ | 5, _ | 6, _ | 7, _ => rfl
theorem mixL_set (s v : Sha.St) (r : Value) (n : Int) (k : Nat) (h : k < 8) : (sumA (mixL s v k) r n).setIfInBounds k (V32 (s.list.getD k 0 + v.list.getD k 0)) = sumA (mixL s v (k + 1)) r n := by
  match k, h with
  | 0, _ | 1, _ | 2, _ | 3, _ | 4, _ | 5, _ | 6, _ | 7, _ => rfl
theorem mixL_8 (s v : Sha.St) : mixL s v 8 = (s.add v).list := rfl
theorem grown_drewN {w w' : World} {row : Option Nat} (h : w.grownBy w' row) (k : Nat) : w.grownBy (w'.drewN k) row := ⟨h.os, h.tape, h.output, h.size, h.block⟩
theorem grown_setCell {w w' : World} {b : Nat} (h : w.grownBy w' (some b)) (a : Addr) (v : Value) (ha : a.block = b) : w.grownBy (w'.setCell a v) (some b) :=
  ⟨h.os, h.tape, h.output, by rw [World.size_setCell]; exact h.size, fun k hk hne => (heap_setCell_other _ _ _ _ (fun e => hne (by rw [e, ha]))).trans (h.block k hk hne)⟩
/-- What the operations of mix's region 9 yield. -/
def phi9 (bs B : Nat) (l : List Sha.W) : Nat → Value → World → Prop
  | 3, v, _ => v = .agg (wordsA l)
  | 4, v, _ => v = .agg (wordsA Sha.K)
  | 5, v, w => ∃ b c, v = .pointer (some ⟨b, 0, none⟩) ∧ B ≤ b ∧ w.heap[b]? = some (.cells c 111 (0, 0)) ∧ c.size = 8
  | 6, v, w => ∃ b c, v = .pointer (some ⟨b, 0, none⟩) ∧ B ≤ b ∧ w.heap[b]? = some (.cells c 146 (0, 0)) ∧ c.size = 64
  | _, v, _ => v = .pointer (some ⟨bs, 0, none⟩)
theorem block_below {w w' : World} (h : Below w.heap.size w w') {b : Nat} {o : Obj} (hb : w.heap[b]? = some o) : w'.heap[b]? = some o :=
  (h.block b (Array.getElem?_eq_some_iff.1 hb).1).trans hb
theorem phi9_stable (bs B : Nat) (l : List Sha.W) (i : Nat) (v : Value) (w w' : World) (h : phi9 bs B l i v w) (hb : Below w.heap.size w w') : phi9 bs B l i v w' := by
  unfold phi9 at *
  split at h
  · exact h
  · exact h
  · obtain ⟨b, c, h1, h2, h3, h4⟩ := h; exact ⟨b, c, h1, h2, block_below hb h3, h4⟩
  · obtain ⟨b, c, h1, h2, h3, h4⟩ := h; exact ⟨b, c, h1, h2, block_below hb h3, h4⟩
  · exact h
/-- RotateLeft32 by a number from -31 to -1. -/
def rotk (x : Sha.W) (k : Int) : Sha.W := Sha.rotr x (-k).toNat
theorem rot_k (x : Sha.W) (k : Int) (h1 : -31 ≤ k) (h2 : k ≤ -1) (w : World) :
    Calls Try.prog 116 #[.int .u32 (w32 x), .int .i64 k] w fun e w' => e = .returned (.int .u32 (w32 (rotk x k))) ∧ w' = w :=
  (rot_any x k (-k).toNat (by omega) (by omega) (by omega) w).mono fun _ _ h => ⟨h.1, h.2.symm⟩
set_option maxRecDepth 100000 in
set_option maxHeartbeats 1000000 in
theorem mix_any (bs bb ob len cap : Nat) (s : Sha.St) (r : Value) (n : Int) (m : List UInt8) (hm : m.length = 64) (hlen : 64 ≤ len) (hlc : len ≤ cap) (hcap : cap ≤ maxLen) (w : World)
    (hs : w.heap[bs]? = some (.cells (sumA s.list r n) 113 (0, 0))) (hbb : bb < w.heap.size) (hb : w.rangeAt bb ob (m.map V8)) :
    Calls Try.prog 78 #[.pointer (some ⟨bs, 0, none⟩), .slice (some ⟨bb, ob, none⟩) len cap] w fun e w' => e = .returned (.tuple #[]) ∧ w.grownBy w' (some bs) ∧ w'.heap[bs]? = some (.cells (sumA (Sha.mix s m).list r n) 113 (0, 0)) := by
  unfold maxLen at hcap
  have HS := Lib.hid hs
  have HB := Lib.hid hb
  have HM := Lib.hid hm
  clear hs hb hm
  go_enter Try.func78, Try.ntmps78
  go_wp2_with fail
  have hz : (w.alloc (.cells #[] 146)).heap.size = w.heap.size + 1 := by simp
  go_loopw [16] (fun i wr => ∃ k : Nat, k ≤ 64 ∧ i = .int .i64 k ∧ Below w.heap.size w wr ∧ wr.heap[w.heap.size]? = some (.cells (wordsA (wL m k)) 146 (0, 0))) (fun i _ => 64 - (intOf i).toNat)
  case atStart => exact ⟨0, by omega, rfl, (Below.refl _ _).alloc (Nat.le_refl _) _, heap_alloc_new _ _⟩
  case round =>
    obtain ⟨k, hk, rfl, hbe, hwb⟩ := hrel
    by_cases hlt : k < 64
    · have HW := Lib.hid hwb
      have HBE := Lib.hid hbe
      obtain ⟨v0, hv0⟩ := wL_there m k k hlt hk
      have hcell : wr.cell? ⟨w.heap.size, k, none⟩ = some v0 := (cell_of_row _ _ _ _ _ _ hwb).trans hv0
      have hfr : wr.frozen? ⟨w.heap.size, k, none⟩ = false := frozen_of_row _ _ _ _ _ hwb
      have HV := Lib.hid hv0
      clear hwb hbe hv0
      by_cases h16 : k < 16
      · have HWD := Lib.hid (word_any bb (ob + k * 4) (len - k * 4) (cap - k * 4) (m.drop (k * 4)) (by rw [List.length_drop, HM.out]; omega) (by omega) (by omega) (by unfold maxLen; omega) wr (fun i hi => by
          rw [HBE.out.cell (p := ⟨bb, ob + k * 4 + i, none⟩) hbb, Nat.add_assoc]
          refine HB.out _ _ ?_
          rw [List.getElem?_map, List.getD, List.getElem?_drop, List.getElem?_eq_getElem (by rw [HM.out]; omega)]; rfl))
        have HN := Lib.hid (wL_set m k hlt)
        have HX : Hid (Sha.wnext m (Sha.sched m k) k = Sha.word (m.drop (k * 4))) := by unfold Hid Sha.wnext; rw [if_pos h16]
        go_wp2_with fail
        refine HWD.out.mono ?_
        rintro e w' ⟨rfl, rfl⟩
        go_wp2_with fail
        go_roundw
        case rel => exact ⟨k + 1, by omega, by go_num, HBE.out.setCell (Nat.le_refl _) _, by rw [heap_setCell_same _ _ _ _ _ _ HW.out, ← HX.out, HN.out]⟩
        case measure => simp [intOf]; omega
      · have hget : ∀ j, j < k → wr.cell? ⟨w.heap.size, j, none⟩ = some (V32 ((Sha.sched m k).getD j 0)) := fun j hj => (cell_of_row _ _ _ _ _ _ HW.out).trans (wL_get m k j hj)
        have hc15 := hget (k - 15) (by omega)
        have hc2 := hget (k - 2) (by omega)
        have hc16 := hget (k - 16) (by omega)
        have hc7 := hget (k - 7) (by omega)
        clear hget
        generalize hx15 : (Sha.sched m k).getD (k - 15) 0 = x15 at hc15
        generalize hx2 : (Sha.sched m k).getD (k - 2) 0 = x2 at hc2
        generalize hx16 : (Sha.sched m k).getD (k - 16) 0 = x16 at hc16
        generalize hx7 : (Sha.sched m k).getD (k - 7) 0 = x7 at hc7
        have HN := Lib.hid (wL_set m k hlt)
        have HX : Hid (Sha.wnext m (Sha.sched m k) k = x16 + x7 + Sha.sg0 x15 + Sha.sg1 x2) := by unfold Hid Sha.wnext; rw [if_neg h16, hx15, hx2, hx16, hx7]
        clear hx15 hx2 hx16 hx7
        have b15 : (0 : Int) ≤ (k : Int) - 15 := by omega
        have b2 : (0 : Int) ≤ (k : Int) - 2 := by omega
        have b16 : (0 : Int) ≤ (k : Int) - 16 := by omega
        have b7 : (0 : Int) ≤ (k : Int) - 7 := by omega
        go_wp2_with fail
        go_quiet (fail)
        go_wp2_with fail
        obtain ⟨W, hW⟩ : ∃ W, wr.drewN nq = W := ⟨_, rfl⟩
        have HC : Hid (∀ p, W.cell? p = wr.cell? p) := by rw [← hW]; intro p; rfl
        have HH : Hid (W.heap = wr.heap) := by rw [← hW]; rfl
        have HBW : Hid (Below w.heap.size w W) := by rw [← hW]; exact ⟨HBE.out.os, HBE.out.tape, HBE.out.output, HBE.out.size, HBE.out.block⟩
        have e1 : W.cell? ⟨w.heap.size, k, none⟩ = some v0 := (HC.out _).trans hcell
        have e2 : W.frozen? ⟨w.heap.size, k, none⟩ = false := by rw [← hW]; exact hfr
        have e3 : W.cell? ⟨w.heap.size, k - 16, none⟩ = some (V32 x16) := (HC.out _).trans hc16
        have e4 : W.cell? ⟨w.heap.size, k - 7, none⟩ = some (V32 x7) := (HC.out _).trans hc7
        rw [hW]
        clear hW hcell hfr hc16 hc7 hc15 hc2
        refine wp_region_quiet_tail 29 (by kernel_rfl) (by kernel_rfl) ?_
        simp only [List.take_succ_cons, List.take_zero, List.drop_succ_cons, List.drop_zero]
        repeat (go_big_quiet_step ((go_at_call 116; exact Calls.quiet_of_same (rot_k _ _ (by decide) (by decide) _))))
        refine wpQuiet_nil ?_
        intro _ hw'
        obtain ⟨nq, hw''⟩ := hw'
        subst hw''
        go_wp2_with fail
        go_roundw
        case rel =>
          refine ⟨k + 1, by omega, by go_num, (HBW.out.trans (below_drewN _ _ _)).setCell (Nat.le_refl _) _, ?_⟩
          rw [heap_setCell_same (W.drewN nq) _ _ _ _ _ ((congrArg (·[w.heap.size]?) HH.out).trans HW.out), ← HN.out, HX.out]
          rfl
        case measure => simp [intOf]; omega
    · obtain rfl : k = 64 := by omega
      have HW := Lib.hid hwb
      have HBE := Lib.hid hbe
      clear hwb hbe hlt hk
      go_upto_region 9 with fail
      have HSW : Hid (wr.heap[bs]? = some (.cells (sumA s.list r n) 113 (0, 0))) := (HBE.out.block bs (Array.getElem?_eq_some_iff.1 HS.out).1).trans HS.out
      have HSZ : Hid ((Try.prog.info? 111).map (·.size) = some (s.list.map V32).length) := by unfold Hid; kernel_rfl
      have HB8 : Hid (bs < wr.heap.size) := (Array.getElem?_eq_some_iff.1 HSW.out).1
      go_cut [8, 9] (fun s8 s9 wx => ∃ B8 B9 : Nat, s8 = .pointer (some ⟨B8, 0, none⟩) ∧ s9 = .pointer (some ⟨B9, 0, none⟩) ∧ B8 ≠ B9 ∧ wr.heap.size ≤ B8 ∧ wr.heap.size ≤ B9 ∧ Below wr.heap.size wr wx ∧ wx.heap[B8]? = some (.cells (wordsA s.list) 111 (0, 0)) ∧ wx.heap[B9]? = some (.cells (wordsA Sha.K) 146 (0, 0)))
      case first =>
        refine wp_region_mono 7 (by kernel_rfl) (by kernel_rfl) (phi9 bs wr.heap.size s.list) (phi9_stable bs wr.heap.size s.list) ⟨?_, ?_, ?_, ?_, ?_, ?_, ?_, trivial⟩ ?_
        · intro vals a w1 hb hs hd
          have e : a.eval (.tmp 0) = .pointer (some ⟨bs, 0, none⟩) := hs 0 (by decide)
          refine head_val (.pointer (some ⟨bs, 0, none⟩)) ?_ (Below.refl _ _) rfl
          generalize a.eval = ρ at *
          clear hs hd
          go_simp
        · intro vals a w1 hb hs hd
          have e : a.eval (.tmp 66) = .pointer (some ⟨bs, 0, none⟩) := (hd 0 (by decide)).1.trans (hd 0 (by decide)).2
          refine head_val (.pointer (some ⟨bs, 0, none⟩)) ?_ (Below.refl _ _) rfl
          generalize a.eval = ρ at *
          clear hs hd
          go_simp
        · intro vals a w1 hb hs hd
          have e : a.eval (.tmp 67) = .pointer (some ⟨bs, 0, none⟩) := (hd 1 (by decide)).1.trans (hd 1 (by decide)).2
          refine head_val (.pointer (some ⟨bs, 0, none⟩)) ?_ (Below.refl _ _) rfl
          generalize a.eval = ρ at *
          clear hs hd
          go_simp
        · intro vals a w1 hb hs hd
          have e : a.eval (.tmp 68) = .pointer (some ⟨bs, 0, none⟩) := (hd 2 (by decide)).1.trans (hd 2 (by decide)).2
          have hl := run_loadVar_mid (P := Try.prog) w1 bs 0 111 (s.list.map V32) _ (rangeAt_of_row ((hb.block bs HB8.out).trans HSW.out) 0 _ (sumA_words s.list r n)) Try.underlying111 rfl HSZ.out
          refine head_val (.agg (wordsA s.list)) ?_ (Below.refl _ _) rfl
          generalize a.eval = ρ at *
          clear hs hd
          simp only [execOp, e, Instr.loadAt, Instr.sureAddr, Sem.run_bind, Sem.run_pure, Result.andThen_ok, hl]
          rfl
        · intro vals a w1 hb hs hd
          have e : a.eval (.func 103) = .func (.func 103) #[] #[] := rfl
          refine head_call (f := 103) (args := #[]) ?_ ((cubes_any w1).mono fun e w' h => ⟨_, h.1, h.2, rfl⟩)
          generalize a.eval = ρ at *
          clear hs hd
          go_simp
        · intro vals a w1 hb hs hd
          refine head_val (.pointer (some ⟨w1.heap.size, 0, none⟩)) (w' := w1.alloc (.cells (wordsA (zeroW 8)) 111)) ?_ ((Below.refl _ _).alloc (Nat.le_refl _) _) ⟨_, _, rfl, hb.size, heap_alloc_new _ _, rfl⟩
          generalize a.eval = ρ at *
          clear hs hd
          go_simp
          rfl
        · intro vals a w1 hb hs hd
          refine head_val (.pointer (some ⟨w1.heap.size, 0, none⟩)) (w' := w1.alloc (.cells (wordsA (zeroW 64)) 146)) ?_ ((Below.refl _ _).alloc (Nat.le_refl _) _) ⟨_, _, rfl, hb.size, heap_alloc_new _ _, rfl⟩
          generalize a.eval = ρ at *
          clear hs hd
          go_simp
          rfl
        · intro vals w1 hb hall
          have h3 : vals 3 = _ := hall 3 (by omega)
          have h4 : vals 4 = _ := hall 4 (by omega)
          obtain ⟨b8, z8, h5, hb8, hz8, hc8⟩ := hall 5 (by omega)
          obtain ⟨b9, z9, h6, hb9, hz9, hc9⟩ := hall 6 (by omega)
          clear hall
          simp only [List.take_succ_cons, List.take_zero, List.drop_succ_cons, List.drop_zero, putHeads, List.zipIdx_cons, List.zipIdx_nil, List.foldl_cons, List.foldl_nil, Act.put, List.setIfInBounds_toArray, List.set_cons_zero, List.set_cons_succ, Nat.zero_add, Nat.reduceAdd, h3, h4, h5, h6]
          refine wpList_store_row rfl 111 (.tmp 8) (.tmp 69) rfl b8 (wordsA s.list) rfl rfl 111 z8 hz8 (by kernel_rfl) (by rw [hc8]; rfl) (all_words _) ?_
          have hne : b8 ≠ b9 := by rintro rfl; rw [hz8] at hz9; cases hz9
          refine wpList_store_row rfl 146 (.tmp 9) (.tmp 70) rfl b9 (wordsA Sha.K) rfl rfl 146 z9 ((setRow_other _ _ _ _ (Ne.symm hne)).trans hz9) (by kernel_rfl) (by rw [hc9]; rfl) (all_words _) ?_
          refine wpList_nil ?_
          go_wp2_with fail
          go_meet
          case rel => exact ⟨b8, b9, rfl, rfl, hne, hb8, hb9, below_setRow (below_setRow hb hb8 _) hb9 _, (setRow_other _ _ _ _ hne).trans (setRow_heap _ _ _ _ _ _ hz8), setRow_heap _ _ _ _ _ _ ((setRow_other _ _ _ _ (Ne.symm hne)).trans hz9)⟩
      case rest =>
        obtain ⟨b8, b9, rfl, rfl, hne, hb8, hb9, hbx, hx8, hx9⟩ := hcut
        have hw0 : wc.heap[w.heap.size]? = some (.cells (wordsA (wL m 64)) 146 (0, 0)) := block_below hbx HW.out
        have HX8 := Lib.hid hx8
        have HX9 := Lib.hid hx9
        have HX0 := Lib.hid hw0
        have HBX := Lib.hid hbx
        clear hx8 hx9 hw0 hbx
        obtain ⟨wo, rfl⟩ : ∃ wo : World, wo = wr := ⟨_, rfl⟩
        go_wp2_with fail
        go_loopw [71] (fun i wk => ∃ k : Nat, k ≤ 64 ∧ i = .int .i64 k ∧ Below wo.heap.size wo wk ∧ wk.heap[b8]? = some (.cells (wordsA (Sha.rounds (Sha.sched m 64) s k).list) 111 (0, 0)) ∧ wk.heap[b9]? = some (.cells (wordsA Sha.K) 146 (0, 0))) (fun i _ => 64 - (intOf i).toNat)
        case atStart => exact ⟨0, by omega, rfl, HBX.out, HX8.out, HX9.out⟩
        case round =>
          obtain ⟨k, hk, rfl, hbk, hk8, hk9⟩ := hrel
          have HK8 := Lib.hid hk8
          have HK9 := Lib.hid hk9
          have HBK := Lib.hid hbk
          have hk0 : wr.heap[w.heap.size]? = some (.cells (wordsA (wL m 64)) 146 (0, 0)) := block_below hbk HW.out
          by_cases hlt : k < 64
          · generalize hS : Sha.rounds (Sha.sched m 64) s k = S at *
            have HSS := Lib.hid hS
            obtain ⟨c0, c1, c2, c3, c4, c5, c6, c7⟩ := wordsSt hk8
            have cK : wr.cell? ⟨b9, k, none⟩ = some (V32 (kAt k)) := (cell_of_row _ _ _ _ _ _ hk9).trans (wordsA_get _ _ hlt)
            have cW : wr.cell? ⟨w.heap.size, k, none⟩ = some (V32 (wAt m k)) := (cell_of_row _ _ _ _ _ _ hk0).trans (wL_get m 64 k hlt)
            clear hk8 hk9 hbk hk0 hS
            go_wp2_with fail
            go_quiet (fail)
            go_wp2_with fail
            obtain ⟨W1, hW1⟩ : ∃ W1, wr.drewN nq = W1 := ⟨_, rfl⟩
            have HH1 : Hid (W1.heap = wr.heap) := by rw [← hW1]; rfl
            have HC1 : Hid (∀ p, W1.cell? p = wr.cell? p) := by rw [← hW1]; intro p; rfl
            replace c1 := (HC1.out _).trans c1
            replace c2 := (HC1.out _).trans c2
            replace c5 := (HC1.out _).trans c5
            replace c6 := (HC1.out _).trans c6
            replace c7 := (HC1.out _).trans c7
            replace cK := (HC1.out _).trans cK
            replace cW := (HC1.out _).trans cW
            have HBK1 : Hid (Below wo.heap.size wo W1) := by rw [← hW1]; exact HBK.out.trans (below_drewN _ _ _)
            rw [hW1]
            clear hW1 c0 c3 c4
            go_quiet ((go_at_call 116; exact Calls.quiet_of_same (rot_k _ _ (by decide) (by decide) _)))
            go_wp2_with fail
            obtain ⟨W2, hW2⟩ : ∃ W2, W1.drewN nq = W2 := ⟨_, rfl⟩
            have HH2 : Hid (W2.heap = wr.heap) := by rw [← hW2]; exact HH1.out
            have HC2 : Hid (∀ p, W2.cell? p = W1.cell? p) := by rw [← hW2]; intro p; rfl
            replace c1 := (HC2.out _).trans c1
            replace c2 := (HC2.out _).trans c2
            have HBK2 : Hid (Below wo.heap.size wo W2) := by rw [← hW2]; exact HBK1.out.trans (below_drewN _ _ _)
            rw [hW2]
            clear hW2 c5 c6 c7 cK cW HC1 HBK1 HH1
            go_quiet ((go_at_call 116; exact Calls.quiet_of_same (rot_k _ _ (by decide) (by decide) _)))
            go_wp2_with fail
            refine wp_region_quiet_tail 2 (by kernel_rfl) (by kernel_rfl) ?_
            simp only [List.take_succ_cons, List.take_zero, List.drop_succ_cons, List.drop_zero]
            repeat (go_big_quiet_step (fail))
            refine wpQuiet_nil ?_
            intro _ hw'
            obtain ⟨nq', hw''⟩ := hw'
            subst hw''
            obtain ⟨W3, hW3⟩ : ∃ W3, (W2.drewN nq).drewN nq' = W3 := ⟨_, rfl⟩
            have hg8 : W3.heap[b8]? = some (.cells (S.list.map V32).toArray 111 (0, 0)) := by rw [← hW3]; exact (congrArg (·[b8]?) HH2.out).trans HK8.out
            have hg9 : W3.heap[b9]? = some (.cells (wordsA Sha.K) 146 (0, 0)) := by rw [← hW3]; exact (congrArg (·[b9]?) HH2.out).trans HK9.out
            have HBK3 : Hid (Below wo.heap.size wo W3) := by rw [← hW3]; exact (HBK2.out.trans (below_drewN _ _ _)).trans (below_drewN _ _ _)
            rw [hW3]
            clear hW3 c1 c2 HBK2 HH2
            refine wpList_copy_own rfl (.tmp 132) (.tmp 133) 97 97 rfl 55 Try.underlying97 (by kernel_rfl) b8 1 7 7 ⟨b8, 0, none⟩ 7 8 rfl rfl _ 111 hg8 [V32 S.a, V32 S.b, V32 S.c, V32 S.d, V32 S.e, V32 S.f, V32 S.g] rfl (fun j v hv => ?_) (by simp [Sha.St.list]) (fun v hv => ?_) ?_
            · have hj : j < 7 := by have := (List.getElem?_eq_some_iff.1 hv).1; simpa using this
              have hadd : (⟨b8, 0, none⟩ : Addr).add j = ⟨b8, j, none⟩ := by unfold Addr.add; split <;> simp_all
              rw [hadd, cell_of_row _ _ _ _ _ _ hg8, ← hv]
              match j, hj with
              | 0, _ | 1, _ | 2, _ | 3, _ | 4, _ | 5, _ | 6, _ => rfl
            · simp only [List.mem_cons, List.not_mem_nil, or_false] at hv
              rcases hv with rfl | rfl | rfl | rfl | rfl | rfl | rfl <;> rfl
            refine wpList_nil ?_
            obtain ⟨W4, hW4⟩ : ∃ W4, W3.setRow b8 (slid S) = W4 := ⟨_, rfl⟩
            have h48 : W4.heap[b8]? = some (.cells (slid S) 111 (0, 0)) := by rw [← hW4]; exact setRow_heap _ _ _ _ _ _ hg8
            have h49 : W4.heap[b9]? = some (.cells (wordsA Sha.K) 146 (0, 0)) := by rw [← hW4]; exact (setRow_other _ _ _ _ (Ne.symm hne)).trans hg9
            have HBK4 : Hid (Below wo.heap.size wo W4) := by rw [← hW4]; exact below_setRow HBK3.out hb8 _
            have d0 : W4.cell? ⟨b8, 0, none⟩ = some (V32 S.a) := cell_of_row _ _ _ _ _ _ h48
            have d4 : W4.cell? ⟨b8, 4, none⟩ = some (V32 S.d) := cell_of_row _ _ _ _ _ _ h48
            have f0 : W4.frozen? ⟨b8, 0, none⟩ = false := frozen_of_row _ _ _ _ _ h48
            have f4 : W4.frozen? ⟨b8, 4, none⟩ = false := frozen_of_row _ _ _ _ _ h48
            have H48 := Lib.hid h48
            have H49 := Lib.hid h49
            show Exit.then _ _ _ _ (W3.setRow b8 (slid S))
            rw [hW4]
            clear hW4 hg8 hg9 h48 h49 HBK3
            simp only [Act.put, List.setIfInBounds_toArray, List.set_cons_succ, List.set_cons_zero, w32_mod4]
            go_wp2_with fail
            refine ⟨?_, by simp [intOf]; omega⟩
            · have hr : Sha.rounds (Sha.sched m 64) s (k + 1) = Sha.round S (kAt k) (wAt m k) := by unfold Sha.rounds; rw [HSS.out]; rfl
              repeat apply Exists.intro
              refine ⟨⟨k + 1, by omega, by go_num, (HBK4.out.setCell hb8 _).setCell hb8 _, ?_, ?_⟩, rfl⟩
              · rw [heap_setCell_same _ _ _ _ _ _ (heap_setCell_same _ _ _ _ _ _ H48.out), hr]
                rfl
              · rw [heap_setCell_other _ _ _ _ (Ne.symm hne), heap_setCell_other _ _ _ _ (Ne.symm hne)]
                exact H49.out
          · obtain rfl : k = 64 := by omega
            generalize hS : Sha.rounds (Sha.sched m 64) s 64 = V at *
            have HSS := Lib.hid hS
            clear hk9 hk0 hS HK9 hlt hk
            obtain ⟨wp, rfl⟩ : ∃ wp : World, wp = wr := ⟨_, rfl⟩
            have HGW : Hid (w.grownBy wp (some bs)) := grownBy_of_below (HBE.out.trans (HBK.out.mono HBE.out.size)) _
            have HSP : Hid (wp.heap[bs]? = some (.cells (sumA s.list r n) 113 (0, 0))) := (HBK.out.block bs HB8.out).trans HSW.out
            have hbs8 : b8 ≠ bs := by have := HB8.out; omega
            clear hk8 hbk
            go_wp2_with fail
            go_loopw [145] (fun i wk => ∃ k : Nat, k ≤ 8 ∧ i = .int .i64 k ∧ w.grownBy wk (some bs) ∧ wk.heap[bs]? = some (.cells (sumA (mixL s V k) r n) 113 (0, 0)) ∧ wk.heap[b8]? = some (.cells (wordsA V.list) 111 (0, 0))) (fun i _ => 8 - (intOf i).toNat)
            case atStart => exact ⟨0, by omega, rfl, HGW.out, HSP.out, HK8.out⟩
            case round =>
              obtain ⟨k, hk, rfl, hgk, hks, hk8⟩ := hrel
              have HGK := Lib.hid hgk
              have HKS := Lib.hid hks
              have HKV := Lib.hid hk8
              clear hgk
              by_cases hlt : k < 8
              · have c1 : wr.cell? ⟨bs, k, none⟩ = some (V32 (s.list.getD k 0)) := (cell_of_row _ _ _ _ _ _ hks).trans (mixL_get s V r n k hlt)
                have c2 : wr.cell? ⟨b8, k, none⟩ = some (V32 (V.list.getD k 0)) := (cell_of_row _ _ _ _ _ _ hk8).trans (wordsA_get _ _ hlt)
                have f1 : wr.frozen? ⟨bs, k, none⟩ = false := frozen_of_row _ _ _ _ _ hks
                generalize hx : s.list.getD k 0 = x at c1
                generalize hy : V.list.getD k 0 = y at c2
                have HST : Hid ((sumA (mixL s V k) r n).setIfInBounds k (V32 (x + y)) = sumA (mixL s V (k + 1)) r n) := by rw [← hx, ← hy]; exact mixL_set s V r n k hlt
                clear hks hk8 hx hy
                go_wp2_with fail
                refine wp_region_quiet_tail 13 (by kernel_rfl) (by kernel_rfl) ?_
                simp only [List.take_succ_cons, List.take_zero, List.drop_succ_cons, List.drop_zero]
                repeat (go_big_quiet_step (fail))
                refine wpQuiet_nil ?_
                intro _ hw'
                obtain ⟨nq, hw''⟩ := hw'
                subst hw''
                go_wp2_with fail
                go_roundw
                case measure => simp [intOf]; omega
                refine ⟨k + 1, by omega, by go_num, grown_setCell (grown_drewN HGK.out _) _ _ rfl, ?_, ?_⟩
                · rw [heap_setCell_same (wr.drewN nq) _ _ _ _ _ HKS.out, HST.out]
                · rw [heap_setCell_other _ _ _ _ hbs8]
                  exact HKV.out
              · obtain rfl : k = 8 := by omega
                clear hks hk8
                go_wp2_with fail
                go_end0
                exact ⟨rfl, HGK.out, by rw [HKS.out, mixL_8, ← HSS.out]; rfl⟩
end Go.Proofs.Ytdecbimklomdjaa
