/- A Sum's End, and the hash of bytes. -/
import Derived.Test.YtdecbimklomdjaaCopy
import Derived.Test.YtdecbimklomdjaaMono
namespace Go.Proofs.Ytdecbimklomdjaa
open Go Go.RowKit Go.Shelf
theorem SumAt.below {w w' : World} {b : Nat} {m : List UInt8} (h : SumAt w b m) (hb : Below w.heap.size w w') : SumAt w' b m := by
  obtain ⟨r, hs, g, hg, hrest⟩ := h
  exact ⟨r, block_below hb hs, g, hg, hrest.turns (S := fun _ => False) ⟨hb.size, fun i hi _ => hb.block i hi⟩ (fun h => h)⟩
theorem owns_parts' {w : World} {base : Nat} {v : Value} {l : List UInt8} {t : TypeId} (h : w.ownsRow base t 1 v (l.map V8).length (l.map V8)) : w.ownsRow base t 1 v l.length (l.map V8) := by
  rw [List.length_map] at h; exact h
theorem owns_parts {w : World} {base : Nat} {v : Value} {l : List UInt8} {t : TypeId} (h : w.ownsRow base t 1 v l.length (l.map V8)) : ∃ a c, v = .slice a l.length c := by
  obtain ⟨_, _, h'⟩ := BytesIn.of_owns h
  rcases h' with ⟨h', h2⟩ | ⟨_, _, h', _⟩
  · subst h2; exact ⟨_, _, h'⟩
  · exact ⟨_, _, h'⟩
def tailL (k : Nat) : List UInt8 := 128 :: List.replicate k 0
theorem tailL_succ (k : Nat) : tailL (k + 1) = tailL k ++ [0] := by
  unfold tailL
  rw [List.replicate_succ', List.cons_append]
theorem one_cell (w : World) (x : UInt8) : ∀ j u, [V8 x][j]? = some u → (w.alloc (.cells #[V8 x] 5)).cell? ((⟨w.heap.size, 0, none⟩ : Addr).add j) = some u := by
  intro j u hu
  match j, hu with
  | 0, hu => cases hu; exact cell_of_row _ _ _ _ _ _ (heap_alloc_new _ _)
  | j + 1, hu => simp at hu
def lensL (n k j : Nat) : List UInt8 := tailL k ++ (List.range j).map fun i => Sha.lenByte n (7 - i)
theorem lensL_0 (n k : Nat) : lensL n k 0 = tailL k := by simp [lensL]
theorem lensL_succ (n k j : Nat) : lensL n k (j + 1) = lensL n k j ++ [Sha.lenByte n (7 - j)] := by
  unfold lensL
  rw [List.range_succ, List.map_append, List.append_assoc]; rfl
theorem one_cell_int (w : World) (x : Int) : ∀ j u, [Value.int .u8 x][j]? = some u → (w.alloc (.cells #[.int .u8 x] 5)).cell? ((⟨w.heap.size, 0, none⟩ : Addr).add j) = some u := by
  intro j u hu
  match j, hu with
  | 0, hu => cases hu; exact cell_of_row _ _ _ _ _ _ (heap_alloc_new _ _)
  | j + 1, hu => simp at hu
theorem owns_eq {w : World} {base : Nat} {e : TypeId} {v : Value} {n : Nat} {xs ys : List Value} (h : w.ownsRow base e 1 v n xs) (he : xs = ys) : w.ownsRow base e 1 v ys.length ys := by
  subst he
  have hn : xs.length = n * 1 := h.1
  rw [show xs.length = n by omega]
  exact h
theorem len_byte (n i : Nat) (h : n * 8 < 18446744073709551616) : b8 (Sha.lenByte n i) = ((n : Int) * 8 / 2 ^ (8 * i)) % 256 := by
  unfold b8 Sha.lenByte
  rw [Nat.mod_eq_of_lt h]
  simp
theorem lens_step (n k j : Nat) (X : Int) (h : X = b8 (Sha.lenByte n (7 - j))) : (lensL n k j).map V8 ++ [.int .u8 X] = (lensL n k (j + 1)).map V8 := by
  rw [lensL_succ, List.map_append, h]; rfl
def outP (s : Sha.St) (k : Nat) : List UInt8 := (List.range k).map (Sha.outByte s) ++ Sha.zeros (32 - k)
theorem outP_get (s : Sha.St) (k : Nat) (h : k < 32) : (bytesA (outP s k))[k]? = some (V8 0) := by
  unfold bytesA outP Sha.zeros
  rw [List.getElem?_toArray, List.getElem?_map, List.getElem?_append_right (by simp), List.getElem?_replicate, if_pos (by simp; omega)]
  rfl
theorem outP_set (s : Sha.St) (k : Nat) (h : k < 32) : (bytesA (outP s k)).setIfInBounds k (V8 (Sha.outByte s k)) = bytesA (outP s (k + 1)) := by
  unfold bytesA outP Sha.zeros
  rw [List.setIfInBounds_toArray, List.map_append, List.set_append_right _ _ (by simp), List.range_succ, List.map_append (l₁ := List.range k), List.append_assoc, List.map_append]
  congr 2
  rw [show 32 - k = (32 - (k + 1)) + 1 by omega, List.replicate_succ]
  simp
theorem outP_32 (s : Sha.St) : outP s 32 = Sha.outBytes s := by simp [outP, Sha.outBytes, Sha.zeros]
theorem all_bytes (l : List UInt8) : (bytesA l).all (·.oneCell') = true := by
  unfold bytesA
  rw [List.all_toArray, List.all_map]
  exact List.all_eq_true.2 fun _ _ => rfl
theorem out_byte (s : Sha.St) (x : Nat) : b8 (Sha.outByte s x) = (w32 (s.list.getD (x / 4) 0) / 2 ^ (8 * (3 - x % 4))) % 256 := by
  unfold b8 Sha.outByte w32
  simp
def lenOf : Value → Nat
  | .slice _ n _ => n
  | _ => 0
set_option maxRecDepth 100000 in
set_option maxHeartbeats 1000000 in
theorem end_any (b : Nat) (m : List UInt8) (w : World) (hS : SumAt w b m) (hz : Sha.mid m ≠ Sha.St.zero) (hm : m.length ≤ 549755813888) :
    Calls Try.prog 23 #[.pointer (some ⟨b, 0, none⟩)] w fun e w' => e = .returned (.agg (bytesA (Sha.outBytes (Sha.mid (m ++ Sha.pad m))))) ∧ Below w.heap.size w w' := by
  obtain ⟨r, hs, g, hg, hrest⟩ := hS
  obtain ⟨ra, rn, rc, rfl⟩ := hrest.slice
  have hbs : b < w.heap.size := (Array.getElem?_eq_some_iff.1 hs).1
  have HS := Lib.hid hs
  have HSA := Lib.hid (show SumAt w b m from ⟨_, hs, g, hg, hrest⟩)
  have HZ := Lib.hid (zero_ne hz)
  have HZ0 := Lib.hid hz
  clear hs hg hrest hz
  go_enter Try.func23, Try.ntmps23
  go_wp2_with fail
  obtain ⟨W1, hW1⟩ : ∃ W1, (w.alloc (.cells (bytesA (Sha.zeros 32)) 28)).alloc (.cells (bytesA (Sha.zeros 32)) 28) = W1 := ⟨_, rfl⟩
  have hb1 : Below w.heap.size w W1 := by rw [← hW1]; exact ((Below.refl _ _).alloc (Nat.le_refl _) _).alloc (by simp) _
  have hn1 : W1.heap[w.heap.size]? = some (.cells (bytesA (Sha.zeros 32)) 28 (0, 0)) := by rw [← hW1]; exact heap_alloc2_old _ _ _
  have hn2 : W1.heap[w.heap.size + 1]? = some (.cells (bytesA (Sha.zeros 32)) 28 (0, 0)) := by rw [← hW1]; exact heap_alloc2_new _ _ _
  have hsz : W1.heap.size = w.heap.size + 2 := by rw [← hW1]; simp
  have hs1 : W1.heap[b]? = _ := block_below hb1 HS.out
  have hSA1 := HSA.out.below hb1
  change Calls Try.prog 75 _ ((w.alloc (.cells (bytesA (Sha.zeros 32)) 28)).alloc (.cells (bytesA (Sha.zeros 32)) 28)) _
  rw [hW1]
  have HB1 := Lib.hid hb1
  have HN1 := Lib.hid hn1
  have HN2 := Lib.hid hn2
  have HS1 := Lib.hid hs1
  have HSA1 := Lib.hid hSA1
  have hc9 : W1.cell? ⟨b, 9, none⟩ = some (.int .u64 (m.length : Int)) := cell_of_row _ _ _ _ _ _ hs1
  clear hb1 hn1 hn2 hs1 hSA1 hW1
  refine (none_any b (Sha.mid m).list rfl _ _ _ HS1.out).mono ?_
  rintro e w' ⟨rfl, rfl⟩
  rw [HZ.out]
  go_wp2_with fail
  have hbs1 : b < W1.heap.size := by omega
  have hwrap : Hid (IntKind.u64.wrap ((m.length : Int) * 8) = (m.length : Int) * 8) := Lib.hid (by simp [IntKind.wrap, IntKind.bits, IntKind.signed]; omega)
  go_cut [4, 5] (fun s4 s5 wx => ∃ C : Nat, s4 = .pointer (some ⟨C, 0, none⟩) ∧ s5 = .int .u64 ((m.length : Int) * 8) ∧ W1.heap.size ≤ C ∧ Below W1.heap.size W1 wx ∧ SumAt wx C m)
  case first =>
    go_region_with (go_at_call 21; refine (copy_any b m W1.drew (show SumAt W1.drew b m from HSA1.out) HZ0.out).mono ?_; rintro e w' ⟨c, rfl, hcs, hbe, hsum⟩; have hcx : w'.cell? ⟨b, 9, none⟩ = some (.int .u64 (m.length : Int)) := (hbe.cell (p := ⟨b, 9, none⟩) hbs1).trans hc9; have HCS := Lib.hid hcs; have HBE := Lib.hid hbe; have HSUM := Lib.hid hsum; clear hcs hbe hsum)
    all_goals
      go_wp2_with fail
      go_meet
      case rel => exact ⟨c, rfl, congrArg (Value.int .u64) hwrap.out, HCS.out, ⟨HBE.out.os, HBE.out.tape, HBE.out.output, HBE.out.size, HBE.out.block⟩, HSUM.out⟩
  case rest =>
    obtain ⟨C, rfl, rfl, hcs, hbe, hsum⟩ := hcut
    obtain ⟨rC, hsC, gC, hgC, hrC⟩ := id hsum
    obtain ⟨rCa, rCn, rCc, rfl⟩ := hrC.slice
    have hlt : C < wc.heap.size := (Array.getElem?_eq_some_iff.1 hsC).1
    have hc8 : wc.cell? ⟨C, 8, none⟩ = some (.slice rCa rCn rCc) := cell_of_row _ _ _ _ _ _ hsC
    have hrn : rCn = (Sha.rest m).length := by
      rcases hrC with ⟨h, h2⟩ | ⟨_, _, h, _⟩
      · rw [h2]; injection h
      · injection h
    have HCS := Lib.hid hcs
    have HBE := Lib.hid hbe
    have HSUM := Lib.hid hsum
    have HC8 := Lib.hid hc8
    clear hsum hsC hrC hgC hbe hc8
    go_wp2_with fail
    have HMID := Lib.hid (by rw [hrn]; exact Sha.rest_length m : rCn = m.length % 64)
    have hrl : rCn < 64 := by rw [HMID.out]; omega
    clear hrn
    obtain ⟨i0, hi, hz0, hz1, hz2⟩ := info_parts info5
    have HI := Lib.hid hi
    have H0 := Lib.hid hz0
    have H1 := Lib.hid hz1
    have H2 := Lib.hid hz2
    clear hi hz0 hz1 hz2
    go_loopw [6] (fun v6 wr => ∃ k : Nat, k ≤ Sha.zerosN rCn ∧ Below wc.heap.size wc wr ∧ wr.ownsRow wc.heap.size 5 1 v6 (tailL k).length ((tailL k).map V8)) (fun v6 _ => 64 - lenOf v6)
    case atStart => exact ⟨0, by omega, (Below.refl _ _).alloc (Nat.le_refl _) _, rfl, .inr ⟨wc.heap.size, 1, #[V8 128], rfl, Nat.le_refl _, heap_alloc_new _ _, Nat.le_refl _, by decide, rfl, rfl⟩⟩
    case round =>
      obtain ⟨k, hk, hbk, hown⟩ := hrel
      obtain ⟨ta, tc, rfl⟩ := owns_parts hown
      have hl1 : (tailL k).length = k + 1 := by simp [tailL]
      have hcx : wr.cell? ⟨C, 8, none⟩ = some (.slice rCa rCn rCc) := (hbk.cell (p := ⟨C, 8, none⟩) hlt).trans HC8.out
      have HK := Lib.hid hk
      have HBK := Lib.hid hbk
      have HOWN := Lib.hid hown
      unfold Sha.zerosN at hk
      rw [hl1]
      clear hown hbk
      by_cases hlz : k < Sha.zerosN rCn
      · have hq : ¬ ((rCn : Int) + ((k + 1 : Nat) : Int) + 8) % 64 = 0 := by unfold Sha.zerosN at hlz; omega
        have hown' : wr.ownsRow wc.heap.size 5 1 (.slice ta (k + 1) tc) (k + 1) ((tailL k).map V8) := by rw [← hl1]; exact HOWN.out
        have HOWN1 := Lib.hid (hown'.alloc (.cells #[.int .u8 0] 5))
        have hkz : k < 63 := by unfold Sha.zerosN at hlz; omega
        clear hown'
        go_wp2_with (at_builtin; refine wpList_append_own _ rfl (.tmp 31) (.tmp 32) 25 rfl wc.heap.size 5 i0 (.int .u8 0) 1 1 Try.underlying25 HI.out H0.out H1.out H2.out rfl (by decide) (.slice ta (k + 1) tc) (k + 1) ((tailL k).map V8) rfl HOWN1.out ⟨wr.heap.size, 0, none⟩ 1 1 [V8 0] rfl ?c1 ?c2 ?c3 ?c4 ?c5 ?c6 ?_)
        case c1 => rfl
        case c2 => exact one_cell wr 0
        case c3 => intro u hu; cases List.mem_singleton.1 hu; rfl
        case c4 => unfold maxLen; omega
        case c5 => omega
        case c6 => simp; have := HBK.out.size; omega
        intro v3 W3 hown3 hgr _
        have hown4 : W3.ownsRow wc.heap.size 5 1 v3 (tailL (k + 1)).length ((tailL (k + 1)).map V8) := by
          rw [tailL_succ, List.length_append, List.map_append, hl1]; exact hown3
        have hbe4 : Below wc.heap.size wc W3 := (HBK.out.alloc HBK.out.size _).grown hgr (by simp; have := HBK.out.size; omega) (fun k hk => (HOWN1.out.lt k hk).1)
        obtain ⟨t3, n3, rfl⟩ := owns_parts hown4
        have HO4 := Lib.hid hown4
        have HB4 := Lib.hid hbe4
        clear hown3 hgr hown4 hbe4
        go_wp2_with fail
        go_roundw
        case rel => exact ⟨k + 1, by omega, HB4.out, HO4.out⟩
        case measure => show 64 - (tailL (k + 1)).length < 64 - (k + 1); rw [show (tailL (k + 1)).length = k + 2 by simp [tailL]]; omega
      · have hq : ((rCn : Int) + ((k + 1 : Nat) : Int) + 8) % 64 = 0 := by unfold Sha.zerosN at hlz; omega
        have hkz : k = Sha.zerosN rCn := by have := HK.out; omega
        have hown0 : wr.ownsRow wc.heap.size 5 1 (.slice ta (k + 1) tc) (lensL m.length k 0).length ((lensL m.length k 0).map V8) := by rw [lensL_0, hl1]; rw [← hl1]; exact HOWN.out
        have HOWN0 := Lib.hid hown0
        have HKZ := Lib.hid hkz
        clear hown0 hkz
        obtain ⟨wo, rfl⟩ : ∃ wo : World, wo = wr := ⟨_, rfl⟩
        go_wp2_with fail
        generalize (Value.bool (((rCn : Int) + ((k : Int) + 1) + 8) % 64 != 0)) = vb
        go_loopw [6, 7] (fun v6 v7 wr => ∃ j : Nat, j ≤ 8 ∧ v7 = .int .i64 (7 - (j : Int)) ∧ Below wc.heap.size wc wr ∧ wr.ownsRow wc.heap.size 5 1 v6 (lensL m.length k j).length ((lensL m.length k j).map V8)) (fun _ v7 _ => (intOf v7 + 1).toNat)
        case atStart => exact ⟨0, by omega, by simp, HBK.out, HOWN0.out⟩
        case round =>
          obtain ⟨j, hj, rfl, hbj, hownj⟩ := hrel
          obtain ⟨tb, td, rfl⟩ := owns_parts hownj
          have hl2 : (lensL m.length k j).length = k + 1 + j := by simp [lensL, tailL]; omega
          have HBJ := Lib.hid hbj
          have HOWNJ := Lib.hid hownj
          rw [hl2]
          clear hownj hbj
          by_cases hj8 : j < 8
          · have hown' : wr.ownsRow wc.heap.size 5 1 (.slice tb (k + 1 + j) td) (k + 1 + j) ((lensL m.length k j).map V8) := by rw [← hl2]; exact HOWNJ.out
            have HOWN1 : Hid (∀ X : Int, (wr.alloc (.cells #[.int .u8 X] 5)).ownsRow wc.heap.size 5 1 (.slice tb (k + 1 + j) td) (k + 1 + j) ((lensL m.length k j).map V8)) := Lib.hid fun X => hown'.alloc _
            clear hown'
            have HKL : Hid (k < 64) := Lib.hid (by have := HKZ.out; unfold Sha.zerosN at this; omega)
            have hcase : j = 0 ∨ j = 1 ∨ j = 2 ∨ j = 3 ∨ j = 4 ∨ j = 5 ∨ j = 6 ∨ j = 7 := by omega
            rcases hcase with rfl | rfl | rfl | rfl | rfl | rfl | rfl | rfl
            · go_wp2_with (at_builtin; refine wpList_append_own _ rfl (.tmp 38) (.tmp 44) 25 rfl wc.heap.size 5 i0 (.int .u8 0) 1 1 Try.underlying25 HI.out H0.out H1.out H2.out rfl (by decide) (.slice tb (k + 1 + 0) td) (k + 1 + 0) ((lensL m.length k 0).map V8) rfl (HOWN1.out ((m.length : Int) * 8 / 72057594037927936)) ⟨wr.heap.size, 0, none⟩ 1 1 [.int .u8 ((m.length : Int) * 8 / 72057594037927936)] rfl ?c1 ?c2 ?c3 ?c4 ?c5 ?c6 ?_)
              case c1 => rfl
              case c2 => exact one_cell_int wr _
              case c3 => intro u hu; cases List.mem_singleton.1 hu; rfl
              case c4 => have := HKL.out; unfold maxLen; omega
              case c5 => have := HKL.out; omega
              case c6 => simp; have := HBJ.out.size; omega
              intro v3 W3 hown3 hgr _
              have hown4 := owns_parts' <| owns_eq (ys := (lensL m.length k (0 + 1)).map V8) hown3 (lens_step m.length k 0 _ (by rw [len_byte _ _ (by omega)]; simp; try omega))
              have hbe4 : Below wc.heap.size wc W3 := (HBJ.out.alloc HBJ.out.size _).grown hgr (by simp; have := HBJ.out.size; omega) (fun k hk => ((HOWN1.out 0).lt k hk).1)
              obtain ⟨t3, n3, rfl⟩ := owns_parts hown4
              have HO4 := Lib.hid hown4
              have HB4 := Lib.hid hbe4
              clear hown3 hgr hown4 hbe4
              go_wp2_with fail
              go_roundw
              case rel =>
                refine ⟨0 + 1, by omega, ?_, HB4.out, HO4.out⟩
                first | rfl | (simp; done) | (simp; omega)
              case measure => simp [intOf]
            · go_wp2_with (at_builtin; refine wpList_append_own _ rfl (.tmp 38) (.tmp 44) 25 rfl wc.heap.size 5 i0 (.int .u8 0) 1 1 Try.underlying25 HI.out H0.out H1.out H2.out rfl (by decide) (.slice tb (k + 1 + 1) td) (k + 1 + 1) ((lensL m.length k 1).map V8) rfl (HOWN1.out ((m.length : Int) * 8 / 281474976710656)) ⟨wr.heap.size, 0, none⟩ 1 1 [.int .u8 ((m.length : Int) * 8 / 281474976710656)] rfl ?c1 ?c2 ?c3 ?c4 ?c5 ?c6 ?_)
              case c1 => rfl
              case c2 => exact one_cell_int wr _
              case c3 => intro u hu; cases List.mem_singleton.1 hu; rfl
              case c4 => have := HKL.out; unfold maxLen; omega
              case c5 => have := HKL.out; omega
              case c6 => simp; have := HBJ.out.size; omega
              intro v3 W3 hown3 hgr _
              have hown4 := owns_parts' <| owns_eq (ys := (lensL m.length k (1 + 1)).map V8) hown3 (lens_step m.length k 1 _ (by rw [len_byte _ _ (by omega)]; simp; try omega))
              have hbe4 : Below wc.heap.size wc W3 := (HBJ.out.alloc HBJ.out.size _).grown hgr (by simp; have := HBJ.out.size; omega) (fun k hk => ((HOWN1.out 0).lt k hk).1)
              obtain ⟨t3, n3, rfl⟩ := owns_parts hown4
              have HO4 := Lib.hid hown4
              have HB4 := Lib.hid hbe4
              clear hown3 hgr hown4 hbe4
              go_wp2_with fail
              go_roundw
              case rel =>
                refine ⟨1 + 1, by omega, ?_, HB4.out, HO4.out⟩
                first | rfl | (simp; done) | (simp; omega)
              case measure => simp [intOf]
            · go_wp2_with (at_builtin; refine wpList_append_own _ rfl (.tmp 38) (.tmp 44) 25 rfl wc.heap.size 5 i0 (.int .u8 0) 1 1 Try.underlying25 HI.out H0.out H1.out H2.out rfl (by decide) (.slice tb (k + 1 + 2) td) (k + 1 + 2) ((lensL m.length k 2).map V8) rfl (HOWN1.out ((m.length : Int) * 8 / 1099511627776)) ⟨wr.heap.size, 0, none⟩ 1 1 [.int .u8 ((m.length : Int) * 8 / 1099511627776)] rfl ?c1 ?c2 ?c3 ?c4 ?c5 ?c6 ?_)
              case c1 => rfl
              case c2 => exact one_cell_int wr _
              case c3 => intro u hu; cases List.mem_singleton.1 hu; rfl
              case c4 => have := HKL.out; unfold maxLen; omega
              case c5 => have := HKL.out; omega
              case c6 => simp; have := HBJ.out.size; omega
              intro v3 W3 hown3 hgr _
              have hown4 := owns_parts' <| owns_eq (ys := (lensL m.length k (2 + 1)).map V8) hown3 (lens_step m.length k 2 _ (by rw [len_byte _ _ (by omega)]; simp; try omega))
              have hbe4 : Below wc.heap.size wc W3 := (HBJ.out.alloc HBJ.out.size _).grown hgr (by simp; have := HBJ.out.size; omega) (fun k hk => ((HOWN1.out 0).lt k hk).1)
              obtain ⟨t3, n3, rfl⟩ := owns_parts hown4
              have HO4 := Lib.hid hown4
              have HB4 := Lib.hid hbe4
              clear hown3 hgr hown4 hbe4
              go_wp2_with fail
              go_roundw
              case rel =>
                refine ⟨2 + 1, by omega, ?_, HB4.out, HO4.out⟩
                first | rfl | (simp; done) | (simp; omega)
              case measure => simp [intOf]
            · go_wp2_with (at_builtin; refine wpList_append_own _ rfl (.tmp 38) (.tmp 44) 25 rfl wc.heap.size 5 i0 (.int .u8 0) 1 1 Try.underlying25 HI.out H0.out H1.out H2.out rfl (by decide) (.slice tb (k + 1 + 3) td) (k + 1 + 3) ((lensL m.length k 3).map V8) rfl (HOWN1.out ((m.length : Int) * 8 / 4294967296 % 256)) ⟨wr.heap.size, 0, none⟩ 1 1 [.int .u8 ((m.length : Int) * 8 / 4294967296 % 256)] rfl ?c1 ?c2 ?c3 ?c4 ?c5 ?c6 ?_)
              case c1 => rfl
              case c2 => exact one_cell_int wr _
              case c3 => intro u hu; cases List.mem_singleton.1 hu; rfl
              case c4 => have := HKL.out; unfold maxLen; omega
              case c5 => have := HKL.out; omega
              case c6 => simp; have := HBJ.out.size; omega
              intro v3 W3 hown3 hgr _
              have hown4 := owns_parts' <| owns_eq (ys := (lensL m.length k (3 + 1)).map V8) hown3 (lens_step m.length k 3 _ (by rw [len_byte _ _ (by omega)]; simp; try omega))
              have hbe4 : Below wc.heap.size wc W3 := (HBJ.out.alloc HBJ.out.size _).grown hgr (by simp; have := HBJ.out.size; omega) (fun k hk => ((HOWN1.out 0).lt k hk).1)
              obtain ⟨t3, n3, rfl⟩ := owns_parts hown4
              have HO4 := Lib.hid hown4
              have HB4 := Lib.hid hbe4
              clear hown3 hgr hown4 hbe4
              go_wp2_with fail
              go_roundw
              case rel =>
                refine ⟨3 + 1, by omega, ?_, HB4.out, HO4.out⟩
                first | rfl | (simp; done) | (simp; omega)
              case measure => simp [intOf]
            · go_wp2_with (at_builtin; refine wpList_append_own _ rfl (.tmp 38) (.tmp 44) 25 rfl wc.heap.size 5 i0 (.int .u8 0) 1 1 Try.underlying25 HI.out H0.out H1.out H2.out rfl (by decide) (.slice tb (k + 1 + 4) td) (k + 1 + 4) ((lensL m.length k 4).map V8) rfl (HOWN1.out ((m.length : Int) * 8 / 16777216 % 256)) ⟨wr.heap.size, 0, none⟩ 1 1 [.int .u8 ((m.length : Int) * 8 / 16777216 % 256)] rfl ?c1 ?c2 ?c3 ?c4 ?c5 ?c6 ?_)
              case c1 => rfl
              case c2 => exact one_cell_int wr _
              case c3 => intro u hu; cases List.mem_singleton.1 hu; rfl
              case c4 => have := HKL.out; unfold maxLen; omega
              case c5 => have := HKL.out; omega
              case c6 => simp; have := HBJ.out.size; omega
              intro v3 W3 hown3 hgr _
              have hown4 := owns_parts' <| owns_eq (ys := (lensL m.length k (4 + 1)).map V8) hown3 (lens_step m.length k 4 _ (by rw [len_byte _ _ (by omega)]; simp; try omega))
              have hbe4 : Below wc.heap.size wc W3 := (HBJ.out.alloc HBJ.out.size _).grown hgr (by simp; have := HBJ.out.size; omega) (fun k hk => ((HOWN1.out 0).lt k hk).1)
              obtain ⟨t3, n3, rfl⟩ := owns_parts hown4
              have HO4 := Lib.hid hown4
              have HB4 := Lib.hid hbe4
              clear hown3 hgr hown4 hbe4
              go_wp2_with fail
              go_roundw
              case rel =>
                refine ⟨4 + 1, by omega, ?_, HB4.out, HO4.out⟩
                first | rfl | (simp; done) | (simp; omega)
              case measure => simp [intOf]
            · go_wp2_with (at_builtin; refine wpList_append_own _ rfl (.tmp 38) (.tmp 44) 25 rfl wc.heap.size 5 i0 (.int .u8 0) 1 1 Try.underlying25 HI.out H0.out H1.out H2.out rfl (by decide) (.slice tb (k + 1 + 5) td) (k + 1 + 5) ((lensL m.length k 5).map V8) rfl (HOWN1.out ((m.length : Int) * 8 / 65536 % 256)) ⟨wr.heap.size, 0, none⟩ 1 1 [.int .u8 ((m.length : Int) * 8 / 65536 % 256)] rfl ?c1 ?c2 ?c3 ?c4 ?c5 ?c6 ?_)
              case c1 => rfl
              case c2 => exact one_cell_int wr _
              case c3 => intro u hu; cases List.mem_singleton.1 hu; rfl
              case c4 => have := HKL.out; unfold maxLen; omega
              case c5 => have := HKL.out; omega
              case c6 => simp; have := HBJ.out.size; omega
              intro v3 W3 hown3 hgr _
              have hown4 := owns_parts' <| owns_eq (ys := (lensL m.length k (5 + 1)).map V8) hown3 (lens_step m.length k 5 _ (by rw [len_byte _ _ (by omega)]; simp; try omega))
              have hbe4 : Below wc.heap.size wc W3 := (HBJ.out.alloc HBJ.out.size _).grown hgr (by simp; have := HBJ.out.size; omega) (fun k hk => ((HOWN1.out 0).lt k hk).1)
              obtain ⟨t3, n3, rfl⟩ := owns_parts hown4
              have HO4 := Lib.hid hown4
              have HB4 := Lib.hid hbe4
              clear hown3 hgr hown4 hbe4
              go_wp2_with fail
              go_roundw
              case rel =>
                refine ⟨5 + 1, by omega, ?_, HB4.out, HO4.out⟩
                first | rfl | (simp; done) | (simp; omega)
              case measure => simp [intOf]
            · go_wp2_with (at_builtin; refine wpList_append_own _ rfl (.tmp 38) (.tmp 44) 25 rfl wc.heap.size 5 i0 (.int .u8 0) 1 1 Try.underlying25 HI.out H0.out H1.out H2.out rfl (by decide) (.slice tb (k + 1 + 6) td) (k + 1 + 6) ((lensL m.length k 6).map V8) rfl (HOWN1.out ((m.length : Int) * 8 / 256 % 256)) ⟨wr.heap.size, 0, none⟩ 1 1 [.int .u8 ((m.length : Int) * 8 / 256 % 256)] rfl ?c1 ?c2 ?c3 ?c4 ?c5 ?c6 ?_)
              case c1 => rfl
              case c2 => exact one_cell_int wr _
              case c3 => intro u hu; cases List.mem_singleton.1 hu; rfl
              case c4 => have := HKL.out; unfold maxLen; omega
              case c5 => have := HKL.out; omega
              case c6 => simp; have := HBJ.out.size; omega
              intro v3 W3 hown3 hgr _
              have hown4 := owns_parts' <| owns_eq (ys := (lensL m.length k (6 + 1)).map V8) hown3 (lens_step m.length k 6 _ (by rw [len_byte _ _ (by omega)]; simp; try omega))
              have hbe4 : Below wc.heap.size wc W3 := (HBJ.out.alloc HBJ.out.size _).grown hgr (by simp; have := HBJ.out.size; omega) (fun k hk => ((HOWN1.out 0).lt k hk).1)
              obtain ⟨t3, n3, rfl⟩ := owns_parts hown4
              have HO4 := Lib.hid hown4
              have HB4 := Lib.hid hbe4
              clear hown3 hgr hown4 hbe4
              go_wp2_with fail
              go_roundw
              case rel =>
                refine ⟨6 + 1, by omega, ?_, HB4.out, HO4.out⟩
                first | rfl | (simp; done) | (simp; omega)
              case measure => simp [intOf]
            · go_wp2_with (at_builtin; refine wpList_append_own _ rfl (.tmp 38) (.tmp 44) 25 rfl wc.heap.size 5 i0 (.int .u8 0) 1 1 Try.underlying25 HI.out H0.out H1.out H2.out rfl (by decide) (.slice tb (k + 1 + 7) td) (k + 1 + 7) ((lensL m.length k 7).map V8) rfl (HOWN1.out ((m.length : Int) * 8 % 256)) ⟨wr.heap.size, 0, none⟩ 1 1 [.int .u8 ((m.length : Int) * 8 % 256)] rfl ?c1 ?c2 ?c3 ?c4 ?c5 ?c6 ?_)
              case c1 => rfl
              case c2 => exact one_cell_int wr _
              case c3 => intro u hu; cases List.mem_singleton.1 hu; rfl
              case c4 => have := HKL.out; unfold maxLen; omega
              case c5 => have := HKL.out; omega
              case c6 => simp; have := HBJ.out.size; omega
              intro v3 W3 hown3 hgr _
              have hown4 := owns_parts' <| owns_eq (ys := (lensL m.length k (7 + 1)).map V8) hown3 (lens_step m.length k 7 _ (by rw [len_byte _ _ (by omega)]; simp; try omega))
              have hbe4 : Below wc.heap.size wc W3 := (HBJ.out.alloc HBJ.out.size _).grown hgr (by simp; have := HBJ.out.size; omega) (fun k hk => ((HOWN1.out 0).lt k hk).1)
              obtain ⟨t3, n3, rfl⟩ := owns_parts hown4
              have HO4 := Lib.hid hown4
              have HB4 := Lib.hid hbe4
              clear hown3 hgr hown4 hbe4
              go_wp2_with fail
              go_roundw
              case rel =>
                refine ⟨7 + 1, by omega, ?_, HB4.out, HO4.out⟩
                first | rfl | (simp; done) | (simp; omega)
              case measure => simp [intOf]
          · have hj9 : j = 8 := by omega
            subst hj9
            have hpad : lensL m.length k 8 = Sha.pad m := by rw [HKZ.out, HMID.out, ← Sha.rest_length]; rfl
            have hown8 : wr.ownsRow wc.heap.size 5 1 (.slice tb (k + 1 + 8) td) (Sha.pad m).length ((Sha.pad m).map V8) := by rw [← hpad, ← hl2]; exact HOWNJ.out
            have hpl : (Sha.pad m).length = k + 1 + 8 := by rw [← hpad]; exact hl2
            obtain ⟨gt, hgt, hbt⟩ := BytesIn.of_owns hown8
            obtain ⟨ot, rfl, hlt', hcm', hgl', hrt⟩ : ∃ ot, tb = some ⟨gt, ot, none⟩ ∧ (Sha.pad m).length ≤ td ∧ td ≤ maxLen ∧ gt < wr.heap.size ∧ wr.rangeAt gt ot ((Sha.pad m).map V8) := by
              rcases hbt with ⟨_, h⟩ | ⟨ot, ct, hv, x1, x2, x3, x4⟩
              · rw [h] at hpl; simp at hpl
              · injection hv with e1 e2 e3; subst e1 e3; exact ⟨ot, rfl, x1, x2, x3, x4⟩
            have hk64 : k < 64 := by have := HKZ.out; unfold Sha.zerosN at this; omega
            have HW := Lib.hid (write_some C m (Sha.pad m) gt ot td wr (HSUM.out.below HBJ.out) HZ0.out hgl' (by omega) hlt' hcm' hrt (by omega))
            rw [hpl] at HW
            clear hown8 hbt hrt
            go_wp2_with (go_at_call 22; refine HW.out.mono ?_; rintro e W7 ⟨rfl, hsum7, hg7⟩)
            obtain ⟨r7, hs7, g7, _, _⟩ := hsum7
            have hsz8 := HBE.out.size
            have hsz9 := HBJ.out.size
            have hb7 : Below w.heap.size w W7 := (HB1.out.trans ((HBE.out.mono (by omega)).trans (HBJ.out.mono (by omega)))).grown hg7 (by omega) (fun k hk => by have := Option.some.inj hk; omega)
            have hx7 : ∀ i, i < W1.heap.size → W7.heap[i]? = W1.heap[i]? := fun i hi => (hg7.block i (by omega) (fun e => by have := Option.some.inj e; omega)).trans ((HBJ.out.block i (by omega)).trans (HBE.out.block i hi))
            have hn7 : W7.heap[w.heap.size]? = _ := (hx7 _ (by omega)).trans HN1.out
            have ho7 : W7.heap[w.heap.size + 1]? = _ := (hx7 _ (by omega)).trans HN2.out
            clear hx7 hg7
            have HS7 := Lib.hid hs7
            have HB7 := Lib.hid hb7
            have HN7 := Lib.hid hn7
            have HO7 := Lib.hid ho7
            clear hs7 hb7 hn7 ho7
            obtain ⟨s, hss⟩ : ∃ s, s = Sha.mid (m ++ Sha.pad m) := ⟨_, rfl⟩
            rw [← hss] at HS7
            have HSS := Lib.hid hss
            clear hss
            generalize ((m ++ Sha.pad m).length : Int) = n7 at *
            have hCw : w.heap.size + 2 ≤ C := by omega
            clear hsz8 hsz9 hk64 hgt hgl' hlt' hcm'
            go_loopw [49] (fun i wr => ∃ k : Nat, k ≤ 32 ∧ i = .int .i64 k ∧ Below w.heap.size w wr ∧ wr.heap[C]? = some (.cells (sumA s.list r7 n7) 113 (0, 0)) ∧ wr.heap[w.heap.size]? = some (.cells (bytesA (Sha.zeros 32)) 28 (0, 0)) ∧ wr.heap[w.heap.size + 1]? = some (.cells (bytesA (outP s k)) 28 (0, 0))) (fun i _ => 32 - (intOf i).toNat)
            case atStart => exact ⟨0, by omega, rfl, HB7.out, HS7.out, HN7.out, HO7.out⟩
            case round =>
              obtain ⟨x, hx, rfl, hbx, hsx, hnx, hox⟩ := hrel
              have HBX := Lib.hid hbx
              have HSX := Lib.hid hsx
              have HNX := Lib.hid hnx
              have HOX := Lib.hid hox
              by_cases hx32 : x < 32
              · have hcw : wr.cell? ⟨C, x / 4, none⟩ = some (V32 (s.list.getD (x / 4) 0)) := (cell_of_row _ _ _ _ _ _ hsx).trans (sumA_get s.list rfl _ _ _ (by omega))
                have hco : wr.cell? ⟨w.heap.size + 1, x, none⟩ = some (V8 0) := (cell_of_row _ _ _ _ _ _ hox).trans (outP_get s x hx32)
                have hfo : wr.frozen? ⟨w.heap.size + 1, x, none⟩ = false := frozen_of_row _ _ _ _ _ hox
                have hq : (x : Int) / 4 = ((x / 4 : Nat) : Int) := by omega
                have hq8 : x / 4 < 8 := by omega
                have HBY := Lib.hid (out_byte s x)
                generalize x / 4 = q at *
                generalize s.list.getD q 0 = sq at *
                clear hbx hsx hnx hox
                have hr : x % 4 = 0 ∨ x % 4 = 1 ∨ x % 4 = 2 ∨ x % 4 = 3 := by omega
                rcases hr with hr | hr | hr | hr
                · have hr' : (x : Int) % 4 = 0 := by omega
                  have HB := Lib.hid (show b8 (Sha.outByte s x) = w32 sq / 16777216 % 256 by rw [HBY.out, hr]; simp)
                  go_wp2_with fail
                  go_roundw
                  case rel => exact ⟨x + 1, by omega, by simp, HBX.out.setCell (by show w.heap.size ≤ w.heap.size + 1; omega) _, (heap_setCell_other _ _ _ _ (by show C ≠ w.heap.size + 1; omega)).trans HSX.out, (heap_setCell_other _ _ _ _ (by show w.heap.size ≠ w.heap.size + 1; omega)).trans HNX.out, by rw [heap_setCell_same _ _ _ _ _ _ HOX.out, ← outP_set s x hx32, ← HB.out]⟩
                  case measure => simp [intOf]; omega
                · have hr' : (x : Int) % 4 = 1 := by omega
                  have HB := Lib.hid (show b8 (Sha.outByte s x) = w32 sq / 65536 % 256 by rw [HBY.out, hr]; simp)
                  go_wp2_with fail
                  go_roundw
                  case rel => exact ⟨x + 1, by omega, by simp, HBX.out.setCell (by show w.heap.size ≤ w.heap.size + 1; omega) _, (heap_setCell_other _ _ _ _ (by show C ≠ w.heap.size + 1; omega)).trans HSX.out, (heap_setCell_other _ _ _ _ (by show w.heap.size ≠ w.heap.size + 1; omega)).trans HNX.out, by rw [heap_setCell_same _ _ _ _ _ _ HOX.out, ← outP_set s x hx32, ← HB.out]⟩
                  case measure => simp [intOf]; omega
                · have hr' : (x : Int) % 4 = 2 := by omega
                  have HB := Lib.hid (show b8 (Sha.outByte s x) = w32 sq / 256 % 256 by rw [HBY.out, hr]; simp)
                  go_wp2_with fail
                  go_roundw
                  case rel => exact ⟨x + 1, by omega, by simp, HBX.out.setCell (by show w.heap.size ≤ w.heap.size + 1; omega) _, (heap_setCell_other _ _ _ _ (by show C ≠ w.heap.size + 1; omega)).trans HSX.out, (heap_setCell_other _ _ _ _ (by show w.heap.size ≠ w.heap.size + 1; omega)).trans HNX.out, by rw [heap_setCell_same _ _ _ _ _ _ HOX.out, ← outP_set s x hx32, ← HB.out]⟩
                  case measure => simp [intOf]; omega
                · have hr' : (x : Int) % 4 = 3 := by omega
                  have HB := Lib.hid (show b8 (Sha.outByte s x) = w32 sq % 256 by rw [HBY.out, hr]; simp)
                  go_wp2_with fail
                  go_roundw
                  case rel => exact ⟨x + 1, by omega, by simp, HBX.out.setCell (by show w.heap.size ≤ w.heap.size + 1; omega) _, (heap_setCell_other _ _ _ _ (by show C ≠ w.heap.size + 1; omega)).trans HSX.out, (heap_setCell_other _ _ _ _ (by show w.heap.size ≠ w.heap.size + 1; omega)).trans HNX.out, by rw [heap_setCell_same _ _ _ _ _ _ HOX.out, ← outP_set s x hx32, ← HB.out]⟩
                  case measure => simp [intOf]; omega
              · have hx33 : x = 32 := by omega
                subst hx33
                rw [outP_32] at hox
                have HOY := Lib.hid hox
                clear hbx hsx hnx hox
                go_wp2_with (first | ((with_reducible refine wpList_load_row ?_ 28 (.tmp 3) ?_ (w.heap.size + 1) ?_ 28 _ (0, 0) _ HOY.out Try.underlying28 ?_ ?_ ?_); (next => rfl); (next => rfl); (next => rfl); (next => rfl); (next => kernel_rfl)) | ((with_reducible refine wpList_store_row ?_ 28 (.tmp 2) (.tmp 68) ?_ w.heap.size (bytesA (Sha.outBytes s)) ?_ ?_ 28 _ HNX.out ?_ ?_ ?_ ?_);  (next => rfl); (next => rfl); (next => rfl); (next => rfl); (next => kernel_rfl); (next => rfl); (next => exact all_bytes _)))
                exact bodyPost_ret (results_cell_row rfl _ _ w.heap.size 28 (bytesA (Sha.outBytes s)) (0, 0) _ rfl (setRow_heap _ _ _ _ _ _ HNX.out) Try.underlying28 rfl (by kernel_rfl)) rfl ⟨by rw [← HSS.out], below_setRow HBX.out (Nat.le_refl _) _⟩

set_option maxRecDepth 100000 in
theorem end_zero (b : Nat) (m : List UInt8) (w : World) (hS : SumAt w b m) (hz : Sha.mid m = Sha.St.zero) :
    Calls Try.prog 23 #[.pointer (some ⟨b, 0, none⟩)] w fun e w' => e = .returned (.agg (bytesA (Sha.zeros 32))) ∧ Below w.heap.size w w' := by
  obtain ⟨r, hs, g, hg, hrest⟩ := hS
  have hbs : b < w.heap.size := (Array.getElem?_eq_some_iff.1 hs).1
  have HS := Lib.hid hs
  have HZ : Hid (((Sha.mid m).list == zeroW 8) = true) := Lib.hid (by rw [hz]; rfl)
  clear hs hg hrest
  go_enter Try.func23, Try.ntmps23
  go_wp2_with fail
  obtain ⟨W1, hW1⟩ : ∃ W1, (w.alloc (.cells (bytesA (Sha.zeros 32)) 28)).alloc (.cells (bytesA (Sha.zeros 32)) 28) = W1 := ⟨_, rfl⟩
  have hb1 : Below w.heap.size w W1 := by rw [← hW1]; exact ((Below.refl _ _).alloc (Nat.le_refl _) _).alloc (by simp) _
  have hn1 : W1.heap[w.heap.size]? = some (.cells (bytesA (Sha.zeros 32)) 28 (0, 0)) := by rw [← hW1]; exact heap_alloc2_old _ _ _
  have hn2 : W1.heap[w.heap.size + 1]? = some (.cells (bytesA (Sha.zeros 32)) 28 (0, 0)) := by rw [← hW1]; exact heap_alloc2_new _ _ _
  have HS1 := Lib.hid (block_below hb1 HS.out)
  change Calls Try.prog 75 _ ((w.alloc (.cells (bytesA (Sha.zeros 32)) 28)).alloc (.cells (bytesA (Sha.zeros 32)) 28)) _
  rw [hW1]
  have HB1 := Lib.hid hb1
  have HN1 := Lib.hid hn1
  have HN2 := Lib.hid hn2
  clear hb1 hn1 hn2 hW1
  refine (none_any b (Sha.mid m).list rfl _ _ _ HS1.out).mono ?_
  rintro e w' ⟨rfl, rfl⟩
  rw [HZ.out]
  go_wp2_with (first | ((with_reducible refine wpList_load_row ?_ 28 (.tmp 3) ?_ (w.heap.size + 1) ?_ 28 _ (0, 0) _ HN2.out Try.underlying28 ?_ ?_ ?_); (next => rfl); (next => rfl); (next => rfl); (next => rfl); (next => kernel_rfl)) | ((with_reducible refine wpList_store_row ?_ 28 (.tmp 2) (.tmp 11) ?_ w.heap.size (bytesA (Sha.zeros 32)) ?_ ?_ 28 _ HN1.out ?_ ?_ ?_ ?_);  (next => rfl); (next => rfl); (next => rfl); (next => rfl); (next => kernel_rfl); (next => rfl); (next => exact all_bytes _)))
  exact bodyPost_ret (results_cell_row rfl _ _ w.heap.size 28 (bytesA (Sha.zeros 32)) (0, 0) _ rfl (setRow_heap _ _ _ _ _ _ HN1.out) Try.underlying28 rfl (by kernel_rfl)) rfl ⟨rfl, below_setRow HB1.out (Nat.le_refl _) _⟩

theorem new_sum {w : World} {b : Nat} (h : w.heap[b]? = some (.cells (sumA Sha.iv.list (.slice none 0 0) 0) 113 (0, 0))) : SumAt w b [] := ⟨_, h, b + 1, by omega, .inl ⟨rfl, rfl⟩⟩
theorem iv_ne : Sha.mid [] ≠ Sha.St.zero := by decide
/-- Write, on bytes that lie anywhere but in the Sum. -/
theorem write_any (bs : Nat) (m l : List UInt8) (v : Value) (w : World) (hS : SumAt w bs m) (hz : Sha.mid m ≠ Sha.St.zero) (hv : BytesAt w v l) (hne : v.ownBlock ≠ some bs) (hlen : m.length + l.length ≤ 1099511627776) :
    Calls Try.prog 22 #[.pointer (some ⟨bs, 0, none⟩), v] w fun e w' => e = .returned (.pointer (some ⟨bs, 0, none⟩)) ∧ SumAt w' bs (m ++ l) ∧ w.grownBy w' (some bs) := by
  rcases hv with ⟨rfl, hl⟩ | ⟨b, o, c, rfl, h1, h2, h3, h4⟩
  · exact write_none bs m l hl w hS hz hlen
  · exact write_some bs m l b o c w hS hz h3 (fun e => hne (by rw [e]; rfl)) h1 h2 h4 hlen
theorem end_hash (b : Nat) (m : List UInt8) (w : World) (hS : SumAt w b m) (hm : m.length ≤ 549755813888) :
    Calls Try.prog 23 #[.pointer (some ⟨b, 0, none⟩)] w fun e w' => e = .returned (.agg (bytesA (Sha.hash m))) ∧ Below w.heap.size w w' := by
  unfold Sha.hash
  by_cases hz : Sha.mid m = Sha.St.zero
  · rw [if_pos hz]; exact end_zero b m w hS hz
  · rw [if_neg hz]; exact end_any b m w hS hz hm
theorem hash_length (m : List UInt8) : (Sha.hash m).length = 32 := by
  unfold Sha.hash Sha.zeros Sha.outBytes
  split <;> simp
theorem BytesAt.lt {w : World} {v : Value} {l : List UInt8} (h : BytesAt w v l) : ∀ b, v.ownBlock = some b → b < w.heap.size := by
  rcases h with ⟨rfl, _⟩ | ⟨b, o, c, rfl, _, _, h, _⟩
  · intro b h; cases h
  · intro b' e; cases e; exact h
set_option maxRecDepth 100000 in
theorem of_any (v : Value) (l : List UInt8) (w : World) (hv : BytesAt w v l) (hl : l.length ≤ 549755813888) :
    Calls Try.prog 27 #[v] w fun e w' => e = .returned (.agg (bytesA (Sha.hash l))) ∧ Below w.heap.size w w' := by
  have HV := Lib.hid hv
  clear hv
  go_enter Try.func27, Try.ntmps27
  go_wp2_with fail
  obtain ⟨W1, hW1⟩ : ∃ W1, w.alloc (.cells (bytesA (Sha.zeros 32)) 28) = W1 := ⟨_, rfl⟩
  have hb1 : Below w.heap.size w W1 := by rw [← hW1]; exact (Below.refl _ _).alloc (Nat.le_refl _) _
  have hn1 : W1.heap[w.heap.size]? = some (.cells (bytesA (Sha.zeros 32)) 28 (0, 0)) := by rw [← hW1]; exact heap_alloc_new _ _
  change Calls Try.prog 20 _ (w.alloc (.cells (bytesA (Sha.zeros 32)) 28)) _
  rw [hW1]
  have hlt1 : w.heap.size < W1.heap.size := (Array.getElem?_eq_some_iff.1 hn1).1
  have HB1 := Lib.hid hb1
  have HN1 := Lib.hid hn1
  clear hb1 hn1 hW1
  refine (new_any W1).mono ?_
  rintro e W2 ⟨b, rfl, hb, hb2, hs2⟩
  have HB2 := Lib.hid hb2
  have HS2 := Lib.hid (new_sum hs2)
  have hlt2 : W1.heap.size ≤ W2.heap.size := hb2.size
  have HV2 := Lib.hid ((HV.out.below HB1.out).below hb2)
  have HNE : Hid (v.ownBlock ≠ some b) := Lib.hid (fun e => by have := HV.out.lt b e; omega)
  clear hb2 hs2
  go_wp2_with (go_at_call 22; refine (write_any b [] l v W2 HS2.out iv_ne HV2.out HNE.out (by simp; omega)).mono ?_; rintro e W3 ⟨rfl, hs3, hg3⟩)
  have HS3 := Lib.hid hs3
  have HG3 := Lib.hid hg3
  have hlt3 : W2.heap.size ≤ W3.heap.size := hg3.size
  clear hs3 hg3
  refine (end_hash b ([] ++ l) W3 HS3.out (by simpa using hl)).mono ?_
  rintro e W4 ⟨rfl, hb4⟩
  rw [List.nil_append]
  have hn4 : W4.heap[w.heap.size]? = _ := (hb4.block _ (by omega)).trans ((HG3.out.block _ (by omega) (fun e => by have := Option.some.inj e; omega)).trans ((HB2.out.block _ hlt1).trans HN1.out))
  have HN4 := Lib.hid hn4
  have HB4 := Lib.hid (((HB1.out.trans (HB2.out.mono (by omega))).grown HG3.out (by omega) (fun k hk => by have := Option.some.inj hk; omega)).trans (hb4.mono (by omega)))
  clear hn4 hb4
  go_wp2_with ((with_reducible refine wpList_store_row ?_ 28 (.tmp 2) (.tmp 6) ?_ w.heap.size (bytesA (Sha.hash l)) ?_ ?_ 28 _ HN4.out ?_ ?_ ?_ ?_);  (next => rfl); (next => rfl); (next => rfl); (next => rfl); (next => rw [size_bytesA, hash_length]; kernel_rfl); (next => rw [size_bytesA, size_bytesA, hash_length]; rfl); (next => exact all_bytes _))
  exact bodyPost_ret (results_cell_row rfl _ _ w.heap.size 28 (bytesA (Sha.hash l)) (0, 0) _ rfl (setRow_heap _ _ _ _ _ _ HN4.out) Try.underlying28 rfl (by rw [size_bytesA, hash_length]; kernel_rfl)) rfl ⟨rfl, below_setRow HB4.out (Nat.le_refl _) _⟩
#print axioms of_any
end Go.Proofs.Ytdecbimklomdjaa
