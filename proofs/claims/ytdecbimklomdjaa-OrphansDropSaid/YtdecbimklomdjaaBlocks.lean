/- The iterator that sha.blocks hands back, for whatever rounds. -/
import Derived.Test.YtdecbimklomdjaaMix
import Derived.RangeFuncNested
import Derived.RangeFuncBound
import Derived.RangeFuncCalls
import Derived.RangeFuncLeaves
import Derived.Shelf.Abstract
import Derived.Shelf.RegionOpen
import Derived.OwnWalkIn
import Derived.TacticsInMore
import Derived.LoopNIn
import Derived.LoopIn
namespace Go.Proofs.Ytdecbimklomdjaa
open Go Go.RowKit Go.Shelf
attribute [local go_sem] Oper.semAt_some

/-- Bytes that lie in a block known by its number (or none at all). -/
def BytesIn (w : World) (g : Nat) (v : Value) (l : List UInt8) : Prop :=
  (v = .slice none 0 0 ∧ l = []) ∨
  ∃ o c, v = .slice (some ⟨g, o, none⟩) l.length c ∧ l.length ≤ c ∧ c ≤ maxLen ∧ g < w.heap.size ∧ w.rangeAt g o (l.map V8)
/-- What a round may turn: the blocks of S alone. -/
def Turns (S : Nat → Prop) (W W' : World) : Prop := W.heap.size ≤ W'.heap.size ∧ ∀ i, i < W.heap.size → ¬ S i → W'.heap[i]? = W.heap[i]?
theorem BytesIn.turns {S : Nat → Prop} {W W' : World} {g : Nat} {v : Value} {l : List UInt8} (h : BytesIn W g v l) (ht : Turns S W W') (hg : ¬ S g) : BytesIn W' g v l := by
  rcases h with h | ⟨o, c, hv, h1, h2, h3, h4⟩
  · exact .inl h
  · exact .inr ⟨o, c, hv, h1, h2, Nat.lt_of_lt_of_le h3 ht.1, fun j u hu => (World.cell?_of_block (ht.2 g h3 hg)).trans (h4 j u hu)⟩
theorem BytesIn.at {w : World} {g : Nat} {v : Value} {l : List UInt8} (h : BytesIn w g v l) : BytesAt w v l := by
  rcases h with h | ⟨o, c, hv, h1, h2, h3, h4⟩
  · exact .inl h
  · exact .inr ⟨g, o, c, hv, h1, h2, h3, h4⟩
/-- The length of the slice that a captured variable holds. -/
def lenAt (b : Nat) (w : World) : Nat := match w.cell? ⟨b, 0, none⟩ with | some (.slice _ n _) => n | _ => 0

theorem rangeAt_drop {w : World} {b o : Nat} {l : List Value} (h : w.rangeAt b o l) (k : Nat) : w.rangeAt b (o + k) (l.drop k) := fun j v hv => by
  rw [Nat.add_assoc]; exact h (k + j) v (by rw [List.getElem?_drop] at hv; exact hv)
theorem rangeAt_take {w : World} {b o : Nat} {l : List Value} (h : w.rangeAt b o l) (k : Nat) : w.rangeAt b o (l.take k) := fun j v hv => by
  rw [List.getElem?_take] at hv
  split at hv
  · exact h j v hv
  · cases hv

theorem blocks1_in (l Bc g : Nat) (all : List UInt8) (S : Nat → Prop) (hBc : ¬ S Bc) (hg : ¬ S g) (hgB : g ≠ Bc) (I : Nat → World → Prop) (Iend : World → Prop)
    (hI : ∀ k W v, I k W → I k (W.setCell ⟨Bc, 0, none⟩ v))
    (hY : ∀ k W v, 64 * (k + 1) ≤ all.length → I k W → BytesIn W g v ((all.drop (64 * k)).take 64) → YieldAt Fence.wide 0 Try.prog l #[.bool true, v] W fun e W' => e = .returned (.bool true) ∧ I (k + 1) W' ∧ Turns S W W')
    (hL : ∀ W v, I (all.length / 64) W → BytesIn W g v (all.drop (64 * (all.length / 64))) → YieldAt Fence.wide 0 Try.prog l #[.bool false, v] W fun e W' => (∃ b, e = .returned (.bool b)) ∧ Iend W')
    (W : World) (v0 : Value) (hc : W.cell? ⟨Bc, 0, none⟩ = some v0) (hf : W.frozen? ⟨Bc, 0, none⟩ = false) (hb : BytesIn W g v0 all) (h0 : I 0 W) :
    CallsIn Fence.wide 0 Try.prog 114 #[.func (.yield l) #[] #[], .pointer (some ⟨Bc, 0, none⟩)] W fun e W' => (∃ v, e = .returned v) ∧ Iend W' := by
  refine callsIn_of_wp Try.func114 rfl trivial ?_
  simp only [Try.ntmps114, List.size_toArray, List.length_cons, List.length_nil, Nat.reduceAdd, Nat.reduceSub, Array.replicate_succ, Array.replicate_zero, List.push_toArray, List.append_toArray, List.nil_append, List.cons_append]
  gi_wp2
  gi_loopw [3] (fun _ wr => ∃ (k : Nat) (v : Value), 64 * k ≤ all.length ∧ wr.cell? ⟨Bc, 0, none⟩ = some v ∧ wr.frozen? ⟨Bc, 0, none⟩ = false ∧ BytesIn wr g v (all.drop (64 * k)) ∧ I k wr)
    (fun _ wr => lenAt Bc wr)
  case atStart => exact ⟨0, v0, by omega, hc, hf, hb, h0⟩
  case round =>
    obtain ⟨k, v, hk, hcv, hfv, hbv, hIk⟩ := hrel
    have hlen : (all.drop (64 * k)).length = all.length - 64 * k := List.length_drop
    by_cases h64 : 64 * (k + 1) ≤ all.length
    · rcases hbv with ⟨_, hnil⟩ | ⟨o, c, rfl, hlc, hcm, hglt, hra⟩
      · rw [hnil] at hlen; simp at hlen; omega
      · have hl64 : ((all.drop (64 * k)).take 64).length = 64 := by rw [List.length_take, hlen]; omega
        obtain ⟨fn, tmps, assign, body, hy, hR⟩ := hY k wr (.slice (some ⟨g, o, none⟩) 64 c) h64 hIk (.inr ⟨o, c, by rw [hl64], by rw [hl64]; omega, hcm, hglt, by rw [List.map_take]; exact rangeAt_take hra 64⟩)
        have hn : 64 ≤ (all.drop (64 * k)).length := by omega
        generalize hN : (all.drop (64 * k)).length = N at *
        have HLEN := Lib.hid hlen
        have HNN := Lib.hid hN
        have HL64 := Lib.hid hl64
        have HRA := Lib.hid hra
        have HT : Hid (lenAt Bc wr = N) := by unfold Hid lenAt; rw [hcv]
        unfold maxLen at hcm
        clear hlen hl64 hra hIk hk hN
        gi_wp2
        refine ⟨rfl, hR.mono ?_⟩
        rintro e W' ⟨rfl, hI', ht⟩
        have hBlt : Bc < wr.heap.size := World.block_lt_of_cell? _ _ hcv
        have hcv' : W'.cell? ⟨Bc, 0, none⟩ = some (.slice (some ⟨g, o, none⟩) N c) := (World.cell?_of_block (ht.2 Bc hBlt hBc)).trans hcv
        have hfv' : W'.frozen? ⟨Bc, 0, none⟩ = false := (World.frozen?_of_block (ht.2 Bc hBlt hBc)).trans hfv
        have HT' := Lib.hid ht
        clear ht hcv hfv hR hy hBlt
        have HI' := Lib.hid hI'
        have HCV := Lib.hid hcv'
        have HFV := Lib.hid hfv'
        clear hI'
        have hnew : ∀ x : Value, BytesIn W' g x (all.drop (64 * (k + 1))) → BytesIn (W'.setCell ⟨Bc, 0, none⟩ x) g x (all.drop (64 * (k + 1))) := fun x hx => by
          rcases hx with hx | ⟨o', c', hv, h1, h2, h3, h4⟩
          · exact .inl hx
          · exact .inr ⟨o', c', hv, h1, h2, by simpa using h3, fun j u hu => by
              rw [World.cell?_setCell_other _ _ _ _ (fun e => hgB (by simpa using (congrArg Addr.block e).symm))]; exact h4 j u hu⟩
        have hd : all.drop (64 * (k + 1)) = (all.drop (64 * k)).drop 64 := by rw [List.drop_drop]; congr 1
        have hl2 : (all.drop (64 * (k + 1))).length = N - 64 := by rw [hd, List.length_drop, HNN.out]
        have hglt' : g < W'.heap.size := Nat.lt_of_lt_of_le hglt HT'.out.1
        by_cases hc64 : c = 64
        · subst hc64
          have hN64 : N = 64 := by omega
          subst hN64
          have hB := hnew (.slice (some ⟨g, o, none⟩) 0 0) (.inr ⟨o, 0, by rw [hl2], by rw [hl2]; omega, by unfold maxLen; omega, hglt', fun j u hu => by
            have := (List.getElem?_eq_some_iff.1 hu).1
            rw [List.length_map, hl2] at this
            omega⟩)
          have HNEW := Lib.hid hB
          clear hB hnew hd hl2
          gi_wp2
          go_roundw
          case rel => exact ⟨k + 1, _, by omega, World.cell?_setCell_same _ _ _ HCV.out, by rw [World.frozen?_setCell]; exact HFV.out, HNEW.out, hI _ _ _ HI'.out⟩
          case measure =>
            rw [HT.out]
            unfold lenAt
            rw [World.cell?_setCell_same _ _ _ HCV.out]
            show 0 < 64
            omega
        · have hB := hnew (.slice (some ⟨g, o + 64, none⟩) (N - 64) (c - 64)) (.inr ⟨o + 64, c - 64, by rw [hl2], by rw [hl2]; omega, by unfold maxLen; omega, hglt', by
            rw [hd, List.map_drop]
            exact fun j u hu => (World.cell?_of_block (HT'.out.2 g hglt hg)).trans (rangeAt_drop HRA.out 64 j u hu)⟩)
          have HNEW := Lib.hid hB
          clear hB hnew hd hl2
          gi_wp2
          go_roundw
          case rel => exact ⟨k + 1, _, by omega, World.cell?_setCell_same _ _ _ HCV.out, by rw [World.frozen?_setCell]; exact HFV.out, HNEW.out, hI _ _ _ HI'.out⟩
          case measure =>
            rw [HT.out]
            unfold lenAt
            rw [World.cell?_setCell_same _ _ _ HCV.out]
            show N - 64 < N
            omega
    · have hkk : k = all.length / 64 := by omega
      subst hkk
      obtain ⟨fn, tmps, assign, body, hy, hR⟩ := hL wr v hIk hbv
      rcases hbv with ⟨rfl, _⟩ | ⟨o, c, rfl, hlc, hcm, hglt, hra⟩
      · gi_wp2
        refine ⟨rfl, hR.mono ?_⟩
        rintro e W' ⟨⟨b, rfl⟩, hend⟩
        gi_wp2
        go_end0
        exact ⟨⟨_, rfl⟩, hend⟩
      · generalize hN : (all.drop (64 * (all.length / 64))).length = N at *
        have hlt : N < 64 := by omega
        clear hlen hra hIk hk hN h64
        gi_wp2
        refine ⟨rfl, hR.mono ?_⟩
        rintro e W' ⟨⟨b, rfl⟩, hend⟩
        gi_wp2
        go_end0
        exact ⟨⟨_, rfl⟩, hend⟩
end Go.Proofs.Ytdecbimklomdjaa
