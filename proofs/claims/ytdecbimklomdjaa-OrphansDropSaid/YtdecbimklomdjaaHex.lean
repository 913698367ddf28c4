/- purserlaw04.hex: the digits of a hash. -/
import Derived.Test.YtdecbimklomdjaaMeet
import Derived.Laws.Concat
namespace Go.Proofs.Ytdecbimklomdjaa
open Go Go.RowKit Go.Shelf
def digit (n : Nat) : UInt8 := if n < 10 then UInt8.ofNat (48 + n) else UInt8.ofNat (87 + n)
theorem and15 (c : UInt8) : bits .and .u8 (b8 c) 15 = ((c.toNat % 16 : Nat) : Int) := by
  have h : ∀ n : Fin 256, bits .and .u8 ((n.1 : Nat) : Int) 15 = ((n.1 % 16 : Nat) : Int) := by decide +kernel
  exact h ⟨c.toNat, c.toNat_lt⟩
def digits : ByteArray := ⟨#[48, 49, 50, 51, 52, 53, 54, 55, 56, 57, 97, 98, 99, 100, 101, 102]⟩
theorem slice9 (q : Nat) (hq : q < 16) (w : World) : (Instr.slice 9 (.string digits) (some (.int .u8 (q : Int))) (some (.int .u8 ((q : Int) + 1))) none).run Try.prog w = .ok (.string ⟨#[digit q]⟩) w := by
  have h : ∀ n : Fin 16, digits.extract n.1 (n.1 + 1) = ⟨#[digit n.1]⟩ := by
    intro n
    have : ∀ n : Fin 16, (digits.extract n.1 (n.1 + 1)).data.toList = [digit n.1] := by decide +kernel
    apply ByteArray.ext
    apply Array.ext'
    exact this n
  have h1 : ¬ ((q : Int) + 1 < 0) := by omega
  have hsz : digits.size = 16 := rfl
  have h2 : ((q : Int) + 1).toNat = q + 1 := by omega
  have := h ⟨q, hq⟩
  generalize digits = D at *
  simp [Instr.slice, go_sem, hsz]
  rw [if_pos (by omega), this]
theorem sliceAt9 (q : Nat) (hq : q < 16) (w : World) : (Instr.sliceAt 9 (.string digits) (some (.int .u8 (q : Int))) (some (.int .u8 ((q : Int) + 1))) none).run Try.prog w = .ok (.string ⟨#[digit q]⟩) w := by
  rw [run_sliceAt_string _ 9 _ _ _ _ Try.underlying9]
  exact slice9 q hq w
theorem add9 (a b : List UInt8) (ha : a.length ≤ 1000) (hb : b.length ≤ 1000) (W : World) : (binOp .add 9 (.string ⟨a.toArray⟩) (.string ⟨b.toArray⟩)).run Try.prog W = .ok (.string ⟨(a ++ b).toArray⟩) W := by
  have h := run_string_add_lists (P := Try.prog) (w := W) a b (by omega) (by omega)
  simpa [binOp] using h
theorem ega (x y : Operand) (a b : Value) (W : World) : (eqGuard .add 9 x y a b).run Try.prog W = .ok () W := by
  simp [eqGuard, go_sem]
/-- What the operations of hex's region 5 yield. -/
def hexV (S : List UInt8) (c : UInt8) (q r : Nat) : Nat → Value
  | 0 => .string ⟨S.toArray⟩
  | 1 => .int .u8 (b8 c)
  | 2 => .int .u8 (q : Int)
  | 3 => .int .u8 (b8 c)
  | 4 => .int .u8 (q : Int)
  | 5 => .int .u8 ((q : Int) + 1)
  | 6 => .string ⟨[digit q].toArray⟩
  | 7 => .string ⟨(S ++ [digit q]).toArray⟩
  | 8 => .int .u8 (b8 c)
  | 9 => .int .u8 (r : Int)
  | 10 => .int .u8 (b8 c)
  | 11 => .int .u8 (r : Int)
  | 12 => .int .u8 ((r : Int) + 1)
  | 13 => .string ⟨[digit r].toArray⟩
  | _ => .string ⟨(S ++ [digit q] ++ [digit r]).toArray⟩
def hexL (l : List UInt8) : List UInt8 := l.flatMap fun c => [digit (c.toNat / 16), digit (c.toNat % 16)]
theorem index28 (cs : Array Value) (k : Nat) (v : Value) (hk : k < 32) (h : cs[k]? = some v) (w : World) : (Instr.index 28 (.agg cs) (.int .i64 (k : Int))).run Try.prog w = .ok v w := by
  have h1 : (0 : Int) ≤ (k : Int) ∧ (k : Int) < ((32 : Nat) : Int) := by omega
  have hp : (part 5 cs (k * 1)).run Try.prog w = .ok v w := by
    simp [part, isAgg, run_underlying Try.underlying5, h]
  unfold Instr.index
  simp only [asIntOf, Sem.run_bind, Sem.run_pure, Result.andThen_ok, run_underlying Try.underlying28, if_pos h1, sizeOf5, Int.toNat_natCast, hp]
theorem hexL_length (l : List UInt8) : (hexL l).length = 2 * l.length := by
  induction l with
  | nil => rfl
  | cons c l ih => simp only [hexL, List.flatMap_cons, List.length_append, List.length_cons, List.length_nil] at *; omega
theorem hexL_succ (h : List UInt8) (k : Nat) (hk : k < h.length) : hexL (h.take (k + 1)) = hexL (h.take k) ++ [digit ((h.getD k 0).toNat / 16)] ++ [digit ((h.getD k 0).toNat % 16)] := by
  rw [List.take_succ_eq_append_getElem hk]
  unfold hexL
  rw [List.flatMap_append, List.append_assoc]
  simp [List.getD, List.getElem?_eq_getElem hk]
set_option maxRecDepth 100000 in
set_option maxHeartbeats 1000000 in
theorem hex_any (h : List UInt8) (hl : h.length = 32) (w : World) : Calls Try.prog 67 #[.agg (bytesA h)] w fun e w' => e = .returned (.string ⟨(hexL h).toArray⟩) ∧ Below w.heap.size w w' := by
  obtain ⟨W1, hW1⟩ : ∃ W1, w.alloc (.cells (bytesA h) 28) = W1 := ⟨_, rfl⟩
  have HB1 : Hid (Below w.heap.size w W1) := Lib.hid (by rw [← hW1]; exact (Below.refl _ _).alloc (Nat.le_refl _) _)
  have HN1 : Hid (W1.heap[w.heap.size]? = some (.cells (bytesA h) 28 (0, 0))) := Lib.hid (by rw [← hW1]; exact heap_alloc_new _ _)
  go_enter Try.func67, Try.ntmps67
  go_wp2_with ((try rw [hW1]); (with_reducible refine wpList_load_row ?_ 28 (.tmp 1) ?_ w.heap.size ?_ 28 _ (0, 0) _ HN1.out Try.underlying28 ?_ ?_ ?_); (next => rfl); (next => rfl); (next => rfl); (next => rfl); (next => rw [size_bytesA, hl]; kernel_rfl))
  try rw [hW1]
  clear hW1
  go_loopw [3, 7] (fun s i wr => ∃ k : Nat, k ≤ 32 ∧ i = .int .i64 k ∧ s = .string ⟨(hexL (h.take k)).toArray⟩ ∧ Below w.heap.size w wr) (fun _ i _ => 32 - (intOf i).toNat)
  case atStart => exact ⟨0, by omega, rfl, rfl, HB1.out⟩
  case round =>
    obtain ⟨k, hk, rfl, rfl, hbe⟩ := hrel
    by_cases hlt : k < 32
    · have hget : (bytesA h)[k]? = some (V8 (h.getD k 0)) := by
        unfold bytesA
        rw [List.getElem?_toArray, List.getElem?_map, List.getD, List.getElem?_eq_getElem (by omega)]; rfl
      have hsz : (bytesA h).size = 32 := by rw [size_bytesA, hl]
      obtain ⟨c, hc⟩ : ∃ c, c = h.getD k 0 := ⟨_, rfl⟩
      rw [← hc] at hget
      have HC := Lib.hid hc
      have hix := index28 (bytesA h) k (V8 c) hlt hget
      clear hc
      go_wp2_with fail
      obtain ⟨S, hS⟩ : ∃ S, S = hexL (h.take k) := ⟨_, rfl⟩
      rw [← hS]
      have hSl : S.length ≤ 64 := by rw [hS, hexL_length, List.length_take]; omega
      have HS := Lib.hid hS
      obtain ⟨q, hqe⟩ : ∃ q, q = c.toNat / 16 := ⟨_, rfl⟩
      obtain ⟨r, hre⟩ : ∃ r, r = c.toNat % 16 := ⟨_, rfl⟩
      have hclt := c.toNat_lt
      have hq : q < 16 := by omega
      have hr : r < 16 := by omega
      have hdiv : b8 c / 16 = (q : Int) := by unfold b8; omega
      have hand : bits .and .u8 (b8 c) 15 = (r : Int) := by rw [and15, hre]
      have hqw : IntKind.u8.wrap ((q : Int) + 1) = (q : Int) + 1 := by simp [IntKind.wrap, IntKind.bits, IntKind.signed]; omega
      have hrw : IntKind.u8.wrap ((r : Int) + 1) = (r : Int) + 1 := by simp [IntKind.wrap, IntKind.bits, IntKind.signed]; omega
      have HQE := Lib.hid hqe
      have HRE := Lib.hid hre
      clear hS hqe hre hclt hget hix
      refine G.wp_region_mono 15 (by kernel_rfl) (by kernel_rfl) (fun j v _ => v = hexV S c q r j) (fun _ _ _ _ h _ => h) ⟨?_, ?_, ?_, ?_, ?_, ?_, ?_, ?_, ?_, ?_, ?_, ?_, ?_, ?_, ?_, trivial⟩ ?_
      · intro vals a w1 hb hs' hd'
        refine want rfl ?_
        have e3 : a.eval (.tmp 3) = Value.string ⟨S.toArray⟩ := hs' 3 (by decide)
        refine head_val (.string ⟨S.toArray⟩) ?_ (Below.refl _ _) rfl
        generalize a.eval = ρ at *
        clear hs' hd'
        go_simp
      · intro vals a w1 hb hs' hd'
        refine want rfl ?_
        have e5 : a.eval (.tmp 5) = Value.int .u8 (b8 c) := hs' 5 (by decide)
        refine head_val (.int .u8 (b8 c)) ?_ (Below.refl _ _) rfl
        generalize a.eval = ρ at *
        clear hs' hd'
        go_simp
      · intro vals a w1 hb hs' hd'
        refine want rfl ?_
        have e11 : a.eval (.tmp 11) = _ := (hd' 1 (by decide)).1.trans (hd' 1 (by decide)).2
        simp only [hexV] at e11
        have ec : a.eval (.const (.int .u64 4)) = .int .u64 4 := rfl
        refine head_val (.int .u8 (q : Int)) ?_ (Below.refl _ _) rfl
        generalize a.eval = ρ at *
        clear hs' hd'
        go_simp
      · intro vals a w1 hb hs' hd'
        refine want rfl ?_
        have e5 : a.eval (.tmp 5) = Value.int .u8 (b8 c) := hs' 5 (by decide)
        refine head_val (.int .u8 (b8 c)) ?_ (Below.refl _ _) rfl
        generalize a.eval = ρ at *
        clear hs' hd'
        go_simp
      · intro vals a w1 hb hs' hd'
        refine want rfl ?_
        have e13 : a.eval (.tmp 13) = _ := (hd' 3 (by decide)).1.trans (hd' 3 (by decide)).2
        simp only [hexV] at e13
        have ec : a.eval (.const (.int .u64 4)) = .int .u64 4 := rfl
        refine head_val (.int .u8 (q : Int)) ?_ (Below.refl _ _) rfl
        generalize a.eval = ρ at *
        clear hs' hd'
        go_simp
      · intro vals a w1 hb hs' hd'
        refine want rfl ?_
        have e14 : a.eval (.tmp 14) = _ := (hd' 4 (by decide)).1.trans (hd' 4 (by decide)).2
        simp only [hexV] at e14
        have ec : a.eval (.const (.int .u8 1)) = .int .u8 1 := rfl
        refine head_val (.int .u8 ((q : Int) + 1)) ?_ (Below.refl _ _) rfl
        generalize a.eval = ρ at *
        clear hs' hd'
        go_simp
      · intro vals a w1 hb hs' hd'
        refine want rfl ?_
        have e12 : a.eval (.tmp 12) = _ := (hd' 2 (by decide)).1.trans (hd' 2 (by decide)).2
        simp only [hexV] at e12
        have e15 : a.eval (.tmp 15) = _ := (hd' 5 (by decide)).1.trans (hd' 5 (by decide)).2
        simp only [hexV] at e15
        have ed : a.eval (.const (.string digits)) = .string digits := rfl
        have hs9 := sliceAt9 q hq w1
        refine head_val (.string ⟨[digit q].toArray⟩) ?_ (Below.refl _ _) rfl
        generalize a.eval = ρ at *
        clear hs' hd'
        show (execOp ρ _).run Try.prog w1 = _
        unfold execOp
        simp only [e12, e15, Option.map_some, Option.map_none]
        rw [show ρ (.const (.string { data := #[48, 49, 50, 51, 52, 53, 54, 55, 56, 57, 97, 98, 99, 100, 101, 102] })) = .string digits from ed]
        simp only [Sem.run_bind, hs9, Result.andThen_ok]
        rfl
      · intro vals a w1 hb hs' hd'
        refine want rfl ?_
        have e10 : a.eval (.tmp 10) = _ := (hd' 0 (by decide)).1.trans (hd' 0 (by decide)).2
        simp only [hexV] at e10
        have e16 : a.eval (.tmp 16) = _ := (hd' 6 (by decide)).1.trans (hd' 6 (by decide)).2
        simp only [hexV] at e16
        have had := add9 (S) ([digit q]) (by omega) (by simp) w1
        refine head_val (.string ⟨(S ++ [digit q]).toArray⟩) ?_ (Below.refl _ _) rfl
        generalize a.eval = ρ at *
        clear hs' hd'
        simp only [execOp, e10, e16, Sem.run_bind, ega, had, Result.andThen_ok]
        rfl
      · intro vals a w1 hb hs' hd'
        refine want rfl ?_
        have e5 : a.eval (.tmp 5) = Value.int .u8 (b8 c) := hs' 5 (by decide)
        refine head_val (.int .u8 (b8 c)) ?_ (Below.refl _ _) rfl
        generalize a.eval = ρ at *
        clear hs' hd'
        go_simp
      · intro vals a w1 hb hs' hd'
        refine want rfl ?_
        have e18 : a.eval (.tmp 18) = _ := (hd' 8 (by decide)).1.trans (hd' 8 (by decide)).2
        simp only [hexV] at e18
        have ec : a.eval (.const (.int .u8 15)) = .int .u8 15 := rfl
        refine head_val (.int .u8 (r : Int)) ?_ (Below.refl _ _) rfl
        generalize a.eval = ρ at *
        clear hs' hd'
        go_simp
      · intro vals a w1 hb hs' hd'
        refine want rfl ?_
        have e5 : a.eval (.tmp 5) = Value.int .u8 (b8 c) := hs' 5 (by decide)
        refine head_val (.int .u8 (b8 c)) ?_ (Below.refl _ _) rfl
        generalize a.eval = ρ at *
        clear hs' hd'
        go_simp
      · intro vals a w1 hb hs' hd'
        refine want rfl ?_
        have e20 : a.eval (.tmp 20) = _ := (hd' 10 (by decide)).1.trans (hd' 10 (by decide)).2
        simp only [hexV] at e20
        have ec : a.eval (.const (.int .u8 15)) = .int .u8 15 := rfl
        refine head_val (.int .u8 (r : Int)) ?_ (Below.refl _ _) rfl
        generalize a.eval = ρ at *
        clear hs' hd'
        go_simp
      · intro vals a w1 hb hs' hd'
        refine want rfl ?_
        have e21 : a.eval (.tmp 21) = _ := (hd' 11 (by decide)).1.trans (hd' 11 (by decide)).2
        simp only [hexV] at e21
        have ec : a.eval (.const (.int .u8 1)) = .int .u8 1 := rfl
        refine head_val (.int .u8 ((r : Int) + 1)) ?_ (Below.refl _ _) rfl
        generalize a.eval = ρ at *
        clear hs' hd'
        go_simp
      · intro vals a w1 hb hs' hd'
        refine want rfl ?_
        have e19 : a.eval (.tmp 19) = _ := (hd' 9 (by decide)).1.trans (hd' 9 (by decide)).2
        simp only [hexV] at e19
        have e22 : a.eval (.tmp 22) = _ := (hd' 12 (by decide)).1.trans (hd' 12 (by decide)).2
        simp only [hexV] at e22
        have ed : a.eval (.const (.string digits)) = .string digits := rfl
        have hs9 := sliceAt9 r hr w1
        refine head_val (.string ⟨[digit r].toArray⟩) ?_ (Below.refl _ _) rfl
        generalize a.eval = ρ at *
        clear hs' hd'
        show (execOp ρ _).run Try.prog w1 = _
        unfold execOp
        simp only [e19, e22, Option.map_some, Option.map_none]
        rw [show ρ (.const (.string { data := #[48, 49, 50, 51, 52, 53, 54, 55, 56, 57, 97, 98, 99, 100, 101, 102] })) = .string digits from ed]
        simp only [Sem.run_bind, hs9, Result.andThen_ok]
        rfl
      · intro vals a w1 hb hs' hd'
        refine want rfl ?_
        have e17 : a.eval (.tmp 17) = _ := (hd' 7 (by decide)).1.trans (hd' 7 (by decide)).2
        simp only [hexV] at e17
        have e23 : a.eval (.tmp 23) = _ := (hd' 13 (by decide)).1.trans (hd' 13 (by decide)).2
        simp only [hexV] at e23
        have had := add9 (S ++ [digit q]) ([digit r]) (by simp; omega) (by simp) w1
        refine head_val (.string ⟨(S ++ [digit q] ++ [digit r]).toArray⟩) ?_ (Below.refl _ _) rfl
        generalize a.eval = ρ at *
        clear hs' hd'
        simp only [execOp, e17, e23, Sem.run_bind, ega, had, Result.andThen_ok]
        rfl
      · intro vals W7 hb7 hall
        have h15 : vals 14 = .string ⟨(S ++ [digit q] ++ [digit r]).toArray⟩ := hall 14 (by omega)
        have HB7 := Lib.hid (hbe.trans (hb7.mono hbe.size))
        clear hall hb7
        simp only [List.take_succ_cons, List.take_zero, List.drop_succ_cons, List.drop_zero, G.putHeads, List.zipIdx_cons, List.zipIdx_nil, List.foldl_cons, List.foldl_nil, Act.put, List.setIfInBounds_toArray, List.set_cons_zero, List.set_cons_succ, Nat.zero_add, Nat.reduceAdd, h15]
        go_wp2_with fail
        go_roundw
        case rel => exact ⟨k + 1, by omega, by simp, by rw [hexL_succ h k (by omega), ← HC.out, ← HS.out, ← HQE.out, ← HRE.out], HB7.out⟩
        case measure => simp [intOf]; omega
    · have hk2 : k = 32 := by omega
      subst hk2
      go_wp2_with fail
      go_ret
      exact ⟨by rw [List.take_of_length_le (by omega)]; rfl, hbe⟩
end Go.Proofs.Ytdecbimklomdjaa
