/- Words of 32 bits and bytes as the model's integers: what each operation on them gives; small laws on memory. -/
import Derived.Test.YtdecbimklomdjaaPure
import Derived.WalkKit
import Derived.Lib.Hide
import Derived.Deep.MidRow
import Derived.Deep.WholeRow
namespace Go.Proofs.Ytdecbimklomdjaa
open Go.RowKit

/-- A word, a byte, as the model's integer. -/
def w32 (x : Sha.W) : Int := (x.toNat : Int)
def b8 (c : UInt8) : Int := (c.toNat : Int)
abbrev V32 (x : Sha.W) : Value := .int .u32 (w32 x)
abbrev V8 (c : UInt8) : Value := .int .u8 (b8 c)

section
variable {P : Program} (w : World) (t t' : TypeId) (x y : Sha.W)

theorem wrap_u32_toNat (n : Nat) (h : n < 4294967296) : IntKind.u32.wrap (n : Int) = (n : Int) := by
  simp [IntKind.wrap, IntKind.bits, IntKind.signed]; omega
theorem ofInt_w32 : BitVec.ofInt 32 (w32 x) = x := by
  unfold w32; rw [BitVec.ofInt_natCast]; simp
theorem bin_add : (binOp .add t (.int .u32 (w32 x)) (.int .u32 (w32 y))).run P w = .ok (.int .u32 (w32 (x + y))) w := by
  have e : IntKind.u32.wrap (w32 x + w32 y) = w32 (x + y) := by
    unfold w32; rw [BitVec.toNat_add]; simp [IntKind.wrap, IntKind.bits, IntKind.signed]
  simp [binOp, Op.intArith, e]
theorem bits_w32 (z : Sha.W) (r : BitVec 32) (h : r = z) : IntKind.u32.wrap (r.toNat : Int) = w32 z := by
  subst h; unfold w32; exact wrap_u32_toNat _ r.isLt
theorem bin_xor : (binOp .xor t (.int .u32 (w32 x)) (.int .u32 (w32 y))).run P w = .ok (.int .u32 (w32 (x ^^^ y))) w := by
  have h : (Op.intBits .xor .u32 (w32 x) (w32 y)) = (pure (.int .u32 (w32 (x ^^^ y))) : Sem Value) := by
    unfold Op.intBits
    exact congrArg (fun n => (pure (.int .u32 n) : Sem Value)) (bits_w32 (x ^^^ y) _ (by rw [show BitVec.ofInt IntKind.u32.bits (w32 x) = x from ofInt_w32 x, show BitVec.ofInt IntKind.u32.bits (w32 y) = y from ofInt_w32 y]; rfl))
  simp [binOp, h]
theorem bin_and : (binOp .and t (.int .u32 (w32 x)) (.int .u32 (w32 y))).run P w = .ok (.int .u32 (w32 (x &&& y))) w := by
  have h : (Op.intBits .and .u32 (w32 x) (w32 y)) = (pure (.int .u32 (w32 (x &&& y))) : Sem Value) := by
    unfold Op.intBits
    exact congrArg (fun n => (pure (.int .u32 n) : Sem Value)) (bits_w32 (x &&& y) _ (by rw [show BitVec.ofInt IntKind.u32.bits (w32 x) = x from ofInt_w32 x, show BitVec.ofInt IntKind.u32.bits (w32 y) = y from ofInt_w32 y]; rfl))
  simp [binOp, h]
theorem bin_or : (binOp .or t (.int .u32 (w32 x)) (.int .u32 (w32 y))).run P w = .ok (.int .u32 (w32 (x ||| y))) w := by
  have h : (Op.intBits .or .u32 (w32 x) (w32 y)) = (pure (.int .u32 (w32 (x ||| y))) : Sem Value) := by
    unfold Op.intBits
    exact congrArg (fun n => (pure (.int .u32 n) : Sem Value)) (bits_w32 (x ||| y) _ (by rw [show BitVec.ofInt IntKind.u32.bits (w32 x) = x from ofInt_w32 x, show BitVec.ofInt IntKind.u32.bits (w32 y) = y from ofInt_w32 y]; rfl))
  simp [binOp, h]
theorem un_not : (Op.unary .xor (.int .u32 (w32 x))).run P w = .ok (.int .u32 (w32 (~~~x))) w := by
  have h : (Op.intBits .xor .u32 IntKind.u32.max (w32 x)) = (pure (.int .u32 (w32 (~~~x))) : Sem Value) := by
    unfold Op.intBits
    exact congrArg (fun n => (pure (.int .u32 n) : Sem Value)) (bits_w32 (~~~x) _ (by
      rw [show BitVec.ofInt IntKind.u32.bits (w32 x) = x from ofInt_w32 x]
      rw [show BitVec.ofInt IntKind.u32.bits IntKind.u32.max = BitVec.allOnes 32 from rfl]
      exact BitVec.allOnes_xor))
  simp [Op.unary, IntKind.signed, h]
theorem toNat_shiftLeft_w (x : Sha.W) (n : Nat) : (x.toNat * 2 ^ n) % 2 ^ 32 = (x <<< n).toNat := by
  rw [BitVec.toNat_shiftLeft, Nat.shiftLeft_eq]
theorem bin_shl (k : IntKind) (n : Nat) (h : n < 32) : (binOp .shl t (.int .u32 (w32 x)) (.int k (n : Int))).run P w = .ok (.int .u32 (w32 (x <<< n))) w := by
  have e : IntKind.u32.wrap (w32 x * 2 ^ (min (n : Int).toNat IntKind.u32.bits)) = w32 (x <<< n) := by
    have hm : min (n : Int).toNat IntKind.u32.bits = n := by
      show min (n : Int).toNat 32 = n
      simp; omega
    rw [hm]
    unfold w32
    rw [← toNat_shiftLeft_w x n]
    have : ((x.toNat : Int) * 2 ^ n) = ((x.toNat * 2 ^ n : Nat) : Int) := by simp
    rw [this]
    simp [IntKind.wrap, IntKind.bits, IntKind.signed]
  have hn : ¬ ((n : Int) < 0) := by omega
  simp only [binOp, Op.shift, if_neg hn, Sem.run_pure, e]
theorem bin_shr (k : IntKind) (n : Nat) (h : n < 32) : (binOp .shr t (.int .u32 (w32 x)) (.int k (n : Int))).run P w = .ok (.int .u32 (w32 (x >>> n))) w := by
  have e : (w32 x).fdiv (2 ^ (min (n : Int).toNat IntKind.u32.bits)) = w32 (x >>> n) := by
    have hm : min (n : Int).toNat IntKind.u32.bits = n := by
      show min (n : Int).toNat 32 = n
      simp; omega
    rw [hm]
    unfold w32
    rw [BitVec.toNat_ushiftRight, Nat.shiftRight_eq_div_pow]
    rw [Int.fdiv_eq_ediv_of_nonneg _ (by exact Int.le_of_lt (Int.pow_pos (by decide)))]
    simp
  have hn : ¬ ((n : Int) < 0) := by omega
  simp only [binOp, Op.shift, if_neg hn, Sem.run_pure, e]
theorem conv_u8_u32 (c : UInt8) : (Conv.intToInt .u32 (b8 c)).run P w = .ok (.int .u32 (w32 (c.toBitVec.setWidth 32))) w := by
  have e : IntKind.u32.wrap (b8 c) = w32 (c.toBitVec.setWidth 32) := by
    unfold b8 w32
    have h : c.toNat < 256 := c.toNat_lt
    rw [wrap_u32_toNat _ (by omega)]
    simp
  simp [Conv.intToInt, e]
end
section
variable {P : Program} (w : World) (x : Sha.W)
theorem shift_shl (k : IntKind) (n : Nat) (h : n < 32) : (Op.shift .shl .u32 (w32 x) k (n : Int)).run P w = .ok (.int .u32 (w32 (x <<< n))) w := by
  simpa [binOp] using bin_shl (P := P) w 0 x k n h
theorem shift_shr (k : IntKind) (n : Nat) (h : n < 32) : (Op.shift .shr .u32 (w32 x) k (n : Int)).run P w = .ok (.int .u32 (w32 (x >>> n))) w := by
  simpa [binOp] using bin_shr (P := P) w 0 x k n h
theorem w32_div (n : Nat) : w32 x / 2 ^ n = w32 (x >>> n) := by
  unfold w32; rw [BitVec.toNat_ushiftRight, Nat.shiftRight_eq_div_pow]; simp
theorem w32_div8 : w32 x / (8 : Int) = w32 (x >>> 3) := w32_div x 3
theorem w32_div1024 : w32 x / (1024 : Int) = w32 (x >>> 10) := w32_div x 10
theorem w32_mul256 : IntKind.u32.wrap (w32 x * 256) = w32 (x <<< 8) := by
  unfold w32; rw [← toNat_shiftLeft_w x 8]
  simp [IntKind.wrap, IntKind.bits, IntKind.signed]
theorem w32_add (y : Sha.W) : IntKind.u32.wrap (w32 x + w32 y) = w32 (x + y) := by
  unfold w32; rw [BitVec.toNat_add]; simp [IntKind.wrap, IntKind.bits, IntKind.signed]
theorem bits_of {op : BinOp} {a b c : Int} (h : ∀ (w : World), (Op.intBits op .u32 a b).run P w = .ok (.int .u32 c) w) (he : ∀ k x y, Op.intBits op k x y = pure (.int k (bits op k x y))) : bits op .u32 a b = c := by
  have := h default
  rw [he] at this
  simpa using this
theorem w32_or (y : Sha.W) : bits .or .u32 (w32 x) (w32 y) = w32 (x ||| y) :=
  bits_of (P := default) (fun w => by simpa [binOp] using bin_or (P := default) w 0 x y) (fun _ _ _ => rfl)
theorem w32_and (y : Sha.W) : bits .and .u32 (w32 x) (w32 y) = w32 (x &&& y) :=
  bits_of (P := default) (fun w => by simpa [binOp] using bin_and (P := default) w 0 x y) (fun _ _ _ => rfl)
theorem w32_xor (y : Sha.W) : bits .xor .u32 (w32 x) (w32 y) = w32 (x ^^^ y) :=
  bits_of (P := default) (fun w => by simpa [binOp] using bin_xor (P := default) w 0 x y) (fun _ _ _ => rfl)
theorem w32_not : bits .xor .u32 IntKind.u32.max (w32 x) = w32 (~~~x) :=
  bits_of (P := default) (fun w => by simpa [Op.unary, IntKind.signed] using un_not (P := default) w x) (fun _ _ _ => rfl)
theorem w32_not' : bits .xor .u32 4294967295 (w32 x) = w32 (~~~x) := w32_not x
theorem w32_byte (c : UInt8) : IntKind.u32.wrap (b8 c) = w32 (c.toBitVec.setWidth 32) := by
  unfold b8 w32
  have h : c.toNat < 256 := c.toNat_lt
  rw [wrap_u32_toNat _ (by omega)]
  simp
theorem w32_nonneg : 0 ≤ w32 x := Int.natCast_nonneg _
theorem w32_lt : w32 x < 4294967296 := by unfold w32; have := x.isLt; omega
theorem b8_nonneg (c : UInt8) : 0 ≤ b8 c := Int.natCast_nonneg _
theorem b8_lt (c : UInt8) : b8 c < 256 := by unfold b8; have := c.toNat_lt; omega
end
/-- A load of a whole array out of the middle of a block, behind a guard that says yes. -/
theorem wpList_load_w {P : Program} {ops : Array Oper} {rest : List Oper} {op : Oper} {a : Act} {w : World} {Q : Exit → Act → World → Prop} (hw : Region.wanted op (yielded ops a.tmps) = true) (ty : TypeId) (x : Operand) (ho : op.op = .load ty x)
    (b o : Nat) (hx : a.eval x = .pointer (some ⟨b, o, none⟩)) (cs : List Value) (d : TypeDesc) (hc : w.rangeAt b o cs)
    (hu : P.underlying ty = some d) (hd : d.isRow = true) (hi : (P.info? ty).map (·.size) = some cs.length)
    (h : wpList P ops Q rest (a.put op.dst (.agg cs.toArray)) w) : wpList P ops Q (op :: rest) a w :=
  BigFrame.wpList_want hw fun _ hK => wp_load_mid ty x ho b o hx cs d hc hu hd hi (hK _ _ h)

/-- The words of an array, as cells; the bytes of one. -/
def wordsA (l : List Sha.W) : Array Value := (l.map V32).toArray
def bytesA (l : List UInt8) : Array Value := (l.map V8).toArray
/-- The struct Sum, as cells. -/
def sumA (l : List Sha.W) (r : Value) (n : Int) : Array Value := (l.map V32 ++ [r, .int .u64 n]).toArray
def zeroW (n : Nat) : List Sha.W := List.replicate n 0
theorem size_wordsA (l : List Sha.W) : (wordsA l).size = l.length := by simp [wordsA]
theorem size_bytesA (l : List UInt8) : (bytesA l).size = l.length := by simp [bytesA]
theorem rangeAt_of_row {w : World} {b : Nat} {cs : Array Value} {t : TypeId} {fr : Nat × Nat} (h : w.heap[b]? = some (.cells cs t fr)) (o : Nat) (l : List Value) (hl : ∀ j v, l[j]? = some v → cs[o + j]? = some v) : w.rangeAt b o l :=
  fun j v hv => (cell_of_row w b (o + j) _ _ _ h).trans (hl j v hv)
theorem sumA_words (l : List Sha.W) (r : Value) (n : Int) (j : Nat) (v : Value) (h : (l.map V32)[j]? = some v) : (sumA l r n)[0 + j]? = some v := by
  have hj : j < (l.map V32).length := (List.getElem?_eq_some_iff.1 h).1
  unfold sumA
  simp only [Nat.zero_add, List.getElem?_toArray]
  rw [List.getElem?_append_left hj, h]

theorem all_range_words : ∀ (xs ys : List Sha.W), xs.length = ys.length → ((List.range xs.length).all fun i => xs.getD i 0 == ys.getD i 0) = (xs == ys)
  | [], [], _ => rfl
  | x :: xs, y :: ys, h => by
    have ih := all_range_words xs ys (by simpa using h)
    rw [List.length_cons, List.range_succ_eq_map, List.all_cons, List.all_map]
    simp only [List.getD_cons_zero, Function.comp_def, List.getD_cons_succ, ih]
    simp [List.cons_beq_cons]
  | [], _ :: _, h => by simp at h
  | _ :: _, [], h => by simp at h
/-- Arrays of words, compared. -/
theorem run_equalIn_words {P : Program} (w : World) (d : Nat) (t e : TypeId) (n : Nat) (ht : P.underlying t = some (.array n e)) (he : P.underlying e = some (.int .u32)) (hsz : ∀ w, (sizeOf e).run P w = .ok 1 w)
    (xs ys : List Sha.W) (hx : xs.length = n) (hy : ys.length = n) :
    (Op.equalIn (d + 2) t (.agg (wordsA xs)) (.agg (wordsA ys))).run P w = .ok (xs == ys) w := by
  rw [← all_range_words xs ys (hx.trans hy.symm), hx, List.range_eq_range', Op.equalIn]
  simp only [Sem.run_bind, run_underlying ht, Result.andThen_ok, hsz, Std.Legacy.Range.forIn_eq_forIn_range', Std.Legacy.Range.size, Nat.sub_zero, Nat.add_sub_cancel, Nat.div_one]
  have hl : ∀ i ∈ List.range' 0 n 1, i < n := fun i hi => by simpa using (List.mem_range'_1.1 hi).2
  generalize List.range' 0 n 1 = l at hl ⊢
  induction l with
  | nil => simp
  | cons i l ih =>
    have hi : i < n := hl i (by simp)
    have px : (part e (wordsA xs) (i * 1)).run P w = .ok (V32 (xs.getD i 0)) w := by
      simp [wordsA, part, isAgg, run_underlying he, List.getD, List.getElem?_eq_getElem (show i < xs.length by omega)]
    have py : (part e (wordsA ys) (i * 1)).run P w = .ok (V32 (ys.getD i 0)) w := by
      simp [wordsA, part, isAgg, run_underlying he, List.getD, List.getElem?_eq_getElem (show i < ys.length by omega)]
    have pe : (Op.equalIn (d + 1) e (V32 (xs.getD i 0)) (V32 (ys.getD i 0))).run P w = .ok (xs.getD i 0 == ys.getD i 0) w := by
      rw [run_equalIn_int w d e .u32 .u32 _ _ he]
      congr 1
      rw [Bool.eq_iff_iff]
      simp only [beq_iff_eq, w32, Int.natCast_inj, BitVec.toNat_inj]
    simp only [List.forIn_cons, Sem.run_bind, px, py, pe, Result.andThen_ok, List.all_cons]
    cases hb : (xs.getD i 0 == ys.getD i 0)
    · simp
    · simp only [Bool.not_true, Bool.false_eq_true, if_false, Sem.run_pure, Result.andThen_ok, Bool.true_and]
      exact ih fun j hj => hl j (by simp [hj])
#print axioms run_equalIn_words

/-- A value that reads as a slice of bytes: nil, or cells that lie there. -/
def BytesAt (w : World) (v : Value) (l : List UInt8) : Prop :=
  (v = .slice none 0 0 ∧ l = []) ∨
  ∃ b o c, v = .slice (some ⟨b, o, none⟩) l.length c ∧ l.length ≤ c ∧ c ≤ maxLen ∧ b < w.heap.size ∧ w.rangeAt b o (l.map V8)
theorem BytesAt.below {w w' : World} {v : Value} {l : List UInt8} (h : BytesAt w v l) (hb : Below w.heap.size w w') : BytesAt w' v l := by
  rcases h with h | ⟨b, o, c, hv, h1, h2, h3, h4⟩
  · exact .inl h
  · exact .inr ⟨b, o, c, hv, h1, h2, Nat.lt_of_lt_of_le h3 hb.size, fun j u hu => (hb.cell (p := ⟨b, o + j, none⟩) h3).trans (h4 j u hu)⟩
theorem BytesAt.grown {w w' : World} {v : Value} {l : List UInt8} {row : Option Nat} (h : BytesAt w v l) (hb : w.grownBy w' row) (hne : ∀ b, v.ownBlock = some b → row ≠ some b) : BytesAt w' v l := by
  rcases h with h | ⟨b, o, c, hv, h1, h2, h3, h4⟩
  · exact .inl h
  · refine .inr ⟨b, o, c, hv, h1, h2, Nat.lt_of_lt_of_le h3 hb.size, fun j u hu => ?_⟩
    exact hb.cell (h4 j u hu) (fun e => hne b (by rw [hv]; rfl) e.symm)
theorem BytesAt.of_owns {w : World} {base : Nat} {v : Value} {l : List UInt8} {t : TypeId} (h : w.ownsRow base t 1 v l.length (l.map V8)) : BytesAt w v l := by
  rcases h.2 with ⟨hv, hn⟩ | ⟨g, cap, cur, hv, _, hg, hc, hm, hs, ht⟩
  · exact .inl ⟨hv, List.length_eq_zero_iff.1 hn⟩
  · refine .inr ⟨g, 0, cap, hv, hc, hm, (Array.getElem?_eq_some_iff.1 hg).1, fun j u hu => ?_⟩
    rw [Nat.zero_add, cell_of_row w g j cur t (0, 0) hg, ← Array.getElem?_toList]
    rw [← ht, List.getElem?_take] at hu
    split at hu
    · exact hu
    · cases hu
theorem grownBy_of_below {w w' : World} (h : Below w.heap.size w w') (row : Option Nat) : w.grownBy w' row :=
  ⟨h.os, h.tape, h.output, h.size, fun k hk _ => h.block k hk⟩
theorem below_of_grown {w w' : World} {row : Option Nat} (h : w.grownBy w' row) (hr : ∀ k, row = some k → w.heap.size ≤ k) : Below w.heap.size w w' :=
  (Below.refl _ w).grown h (Nat.le_refl _) hr
theorem bcell {W w1 : World} (hb : Below W.heap.size W w1) : (∀ b o, b < W.heap.size → w1.cell? ⟨b, o, none⟩ = W.cell? ⟨b, o, none⟩) ∧ (∀ b o, b < W.heap.size → w1.frozen? ⟨b, o, none⟩ = W.frozen? ⟨b, o, none⟩) :=
  ⟨fun b o h => hb.cell (p := ⟨b, o, none⟩) h, fun b o h => hb.frozen (p := ⟨b, o, none⟩) h⟩
theorem wpList_build_to {P : Program} {ops : Array Oper} {rest : List Oper} {o : Oper} {a : Act} {w : World} {Q : Exit → Act → World → Prop} (hg : o.guard = none) (t : TypeId) (parts : Array (Nat × Operand)) (ho : o.op = .build t parts)
    (v : Array Value) (hf : P.built t (parts.map fun (i, x) => (i, a.eval x)).toList = some v)
    (h : wpList P ops Q rest (a.put o.dst (.agg v)) w) : wpList P ops Q (o :: rest) a w :=
  wpList_build hg t parts ho (by rw [hf]; rfl) (by rw [hf]; exact h)
end Go.Proofs.Ytdecbimklomdjaa
