/- purser/wide: numbers by words of 64 bits; Compare. -/
import Derived.Test.YtdecbimklomdjaaSub
namespace Go.Proofs.Ytdecbimklomdjaa
open Go Go.RowKit Go.Shelf
/-- A number's words of 64 bits, k of them, the lowest first. -/
def digs : Nat → Nat → List Nat
  | 0, _ => []
  | k + 1, n => n % 18446744073709551616 :: digs k (n / 18446744073709551616)
theorem length_digs : ∀ k n, (digs k n).length = k
  | 0, _ => rfl
  | k + 1, n => by simp [digs, length_digs k]
theorem digs_lt : ∀ k n x, x ∈ digs k n → x < 18446744073709551616
  | 0, _, _, h => by simp [digs] at h
  | k + 1, n, x, h => by
    simp only [digs, List.mem_cons] at h
    rcases h with rfl | h
    · omega
    · exact digs_lt k _ x h
theorem val_digs : ∀ k n, n < 18446744073709551616 ^ k → val (digs k n) = n
  | 0, n, h => by simp at h; simp [digs, val, h]
  | k + 1, n, h => by
    have h' : n / 18446744073709551616 < 18446744073709551616 ^ k := by
      rw [Nat.div_lt_iff_lt_mul (by omega)]; rw [Nat.pow_succ] at h; exact h
    simp only [digs, val, val_digs k _ h']
    omega
theorem digs_val : ∀ (l : List Nat), (∀ x ∈ l, x < 18446744073709551616) → digs l.length (val l) = l
  | [], _ => rfl
  | x :: l, h => by
    have hx := h x (by simp)
    have ih := digs_val l (fun y hy => h y (by simp [hy]))
    simp only [List.length_cons, digs, val]
    rw [show (x + 18446744073709551616 * val l) % 18446744073709551616 = x by omega, show (x + 18446744073709551616 * val l) / 18446744073709551616 = val l by omega, ih]
theorem four_of (l : List Nat) (h : l.length = 4) : ∃ a b c d, l = [a, b, c, d] := by
  match l, h with
  | [a, b, c, d], _ => exact ⟨a, b, c, d, rfl⟩
theorem borrow_val (la lb : List Nat) (ha : la.length = 4) (hb : lb.length = 4) (hla : ∀ x ∈ la, x < 18446744073709551616) (hlb : ∀ x ∈ lb, x < 18446744073709551616) :
    (borrow la lb 4 == 1) = decide (val la < val lb) := by
  obtain ⟨a0, a1, a2, a3, rfl⟩ := four_of la ha
  obtain ⟨b0, b1, b2, b3, rfl⟩ := four_of lb hb
  have h0 := hla a0 (by simp)
  have h1 := hla a1 (by simp)
  have h2 := hla a2 (by simp)
  have h3 := hla a3 (by simp)
  have g0 := hlb b0 (by simp)
  have g1 := hlb b1 (by simp)
  have g2 := hlb b2 (by simp)
  have g3 := hlb b3 (by simp)
  rw [Bool.eq_iff_iff, beq_iff_eq, decide_eq_true_iff]
  simp only [borrow, val, List.getD_cons_zero, List.getD_cons_succ]
  obtain ⟨c1, e1⟩ : ∃ c1, c1 = if a0 < b0 + 0 then 1 else 0 := ⟨_, rfl⟩
  rw [← e1]
  obtain ⟨c2, e2⟩ : ∃ c2, c2 = if a1 < b1 + c1 then 1 else 0 := ⟨_, rfl⟩
  rw [← e2]
  obtain ⟨c3, e3⟩ : ∃ c3, c3 = if a2 < b2 + c2 then 1 else 0 := ⟨_, rfl⟩
  rw [← e3]
  obtain ⟨c4, e4⟩ : ∃ c4, c4 = if a3 < b3 + c3 then 1 else 0 := ⟨_, rfl⟩
  rw [← e4]
  split at e1 <;> split at e2 <;> split at e3 <;> split at e4 <;> constructor <;> intro h <;> omega
/-- A number of 256 bits, as a value. -/
def wideN (n : Nat) : Value := .agg (wideA (digs 4 n))
theorem sz_u64 (w : World) : (sizeOf 31).run Try.prog w = .ok 1 w := by kernel_rfl
theorem all_range_nats : ∀ (xs ys : List Nat), xs.length = ys.length → ((List.range xs.length).all fun i => xs.getD i 0 == ys.getD i 0) = (xs == ys)
  | [], [], _ => rfl
  | x :: xs, y :: ys, h => by
    have ih := all_range_nats xs ys (by simpa using h)
    rw [List.length_cons, List.range_succ_eq_map, List.all_cons, List.all_map]
    simp only [List.getD_cons_zero, Function.comp_def, List.getD_cons_succ, ih]
    simp [List.cons_beq_cons]
  | [], _ :: _, h => by simp at h
  | _ :: _, [], h => by simp at h
/-- Arrays of words of 64 bits, compared. -/
theorem run_equalIn_nats {P : Program} (w : World) (d : Nat) (t e : TypeId) (n : Nat) (ht : P.underlying t = some (.array n e)) (he : P.underlying e = some (.int .u64)) (hsz : ∀ w, (sizeOf e).run P w = .ok 1 w)
    (xs ys : List Nat) (hx : xs.length = n) (hy : ys.length = n) :
    (Op.equalIn (d + 2) t (.agg (wideA xs)) (.agg (wideA ys))).run P w = .ok (xs == ys) w := by
  rw [← all_range_nats xs ys (hx.trans hy.symm), hx, List.range_eq_range', Op.equalIn]
  simp only [Sem.run_bind, run_underlying ht, Result.andThen_ok, hsz, Std.Legacy.Range.forIn_eq_forIn_range', Std.Legacy.Range.size, Nat.sub_zero, Nat.add_sub_cancel, Nat.div_one]
  have hl : ∀ i ∈ List.range' 0 n 1, i < n := fun i hi => by simpa using (List.mem_range'_1.1 hi).2
  generalize List.range' 0 n 1 = l at hl ⊢
  induction l with
  | nil => simp
  | cons i l ih =>
    have hi : i < n := hl i (by simp)
    have px : (part e (wideA xs) (i * 1)).run P w = .ok (V64 (xs.getD i 0)) w := by
      simp [wideA, part, isAgg, run_underlying he, List.getD, List.getElem?_eq_getElem (show i < xs.length by omega)]
    have py : (part e (wideA ys) (i * 1)).run P w = .ok (V64 (ys.getD i 0)) w := by
      simp [wideA, part, isAgg, run_underlying he, List.getD, List.getElem?_eq_getElem (show i < ys.length by omega)]
    have pe : (Op.equalIn (d + 1) e (V64 (xs.getD i 0)) (V64 (ys.getD i 0))).run P w = .ok (xs.getD i 0 == ys.getD i 0) w := by
      unfold V64
      rw [run_equalIn_int w d e .u64 .u64 _ _ he]
      congr 1
      rw [Bool.eq_iff_iff]
      simp only [beq_iff_eq, Int.natCast_inj]
    simp only [List.forIn_cons, Sem.run_bind, px, py, pe, Result.andThen_ok, List.all_cons]
    cases hb : (xs.getD i 0 == ys.getD i 0)
    · simp
    · simp only [Bool.not_true, Bool.false_eq_true, if_false, Sem.run_pure, Result.andThen_ok, Bool.true_and]
      exact ih fun j hj => hl j (by simp [hj])
theorem eql102 (a b : List Nat) (ha : a.length = 4) (hb : b.length = 4) (W : World) : (binOp .eql 102 (.agg (wideA a)) (.agg (wideA b))).run Try.prog W = .ok (.bool (a == b)) W := by
  rw [run_eql_struct, run_equalIn_nats W 9998 102 31 4 Try.underlying102 Try.underlying31 sz_u64 a b ha hb]
  rfl
/-- How two numbers compare. -/
def cmpI (a b : Nat) : Int := if a = b then 0 else if a < b then -1 else 1
theorem digs_inj (a b : Nat) (ha : a < 18446744073709551616 ^ 4) (hb : b < 18446744073709551616 ^ 4) : (digs 4 a == digs 4 b) = decide (a = b) := by
  rw [Bool.eq_iff_iff]
  simp only [beq_iff_eq, decide_eq_true_eq]
  constructor
  · intro h
    rw [← val_digs 4 a ha, ← val_digs 4 b hb, h]
  · intro h; rw [h]
theorem guard102 : Try.prog.eqGuardType Try.prog.depth 102 = false := by kernel_rfl
theorem eg102 (x y : Operand) (a b : Array Value) (W : World) : (eqGuard .eql 102 x y (.agg a) (.agg b)).run Try.prog W = .ok () W := by
  simp [eqGuard, go_sem]
set_option maxRecDepth 100000 in
set_option maxHeartbeats 1000000 in
theorem cmp_at (la lb : List Nat) (hla : la.length = 4) (hlb : lb.length = 4) (q u : Bool) (hq : (la == lb) = q) (hu : (borrow la lb 4 == 1) = u) (w : World) :
    Calls Try.prog 62 #[.agg (wideA la), .agg (wideA lb)] w fun e w' => e = .returned (.int .i64 (if q then 0 else if u then -1 else 1)) ∧ Below w.heap.size w w' := by
  have heq := fun W => eql102 la lb hla hlb W
  rw [hq] at heq
  have heg := fun x y A B W => eg102 x y A B W
  have HU := Lib.hid hu
  have hra : (Try.prog.info? 102).map (·.size) = some (wideA la).size := by rw [size_wideA, hla]; kernel_rfl
  have hrb : (Try.prog.info? 102).map (·.size) = some (wideA lb).size := by rw [size_wideA, hlb]; kernel_rfl
  have HRA := Lib.hid hra
  have HRB := Lib.hid hrb
  have HLA := Lib.hid hla
  have HLB := Lib.hid hlb
  clear hq hu hra hrb hla hlb
  obtain ⟨W1, hW1, hb1, hn1, hn2, hsz⟩ := two_new w (.cells (wideA la) 102) (.cells (wideA lb) 102)
  have HN1 := Lib.hid hn1
  have HN2 := Lib.hid hn2
  have HB1 := Lib.hid hb1
  clear hn1 hn2 hb1
  obtain ⟨B, hB⟩ : ∃ B, B = w.heap.size := ⟨_, rfl⟩
  have HB := Lib.hid hB
  have HSZ := Lib.hid hsz
  clear hsz
  go_enter Try.func62, Try.ntmps62
  go_upto_region 1 with (fail)
  clear hW1
  rw [← hB] at HN1 HN2
  rw [← hB]
  clear hB
  go_wp2_with ((first | ((with_reducible refine wpList_load_row ?_ 102 (.tmp 2) ?_ B ?_ 102 _ (0, 0) _ HN1.out Try.underlying102 ?_ HRA.out ?_); (next => rfl); (next => rfl); (next => rfl); (next => rfl)) | ((with_reducible refine wpList_load_row ?_ 102 (.tmp 3) ?_ (B + 1) ?_ 102 _ (0, 0) _ HN2.out Try.underlying102 ?_ HRB.out ?_); (next => rfl); (next => rfl); (next => rfl); (next => rfl)) | ((with_reducible refine wpList_load_row ?_ 102 (.tmp 2) ?_ B ?_ 102 _ (0, 0) _ HN1.out Try.underlying102 ?_ HRA.out ?_); (next => rfl); (next => rfl); (next => rfl); (next => rfl))))
  · go_ret
    exact ⟨rfl, HB1.out⟩
  · refine (wsub_any la lb HLA.out HLB.out W1).mono ?_
    rintro e W2 ⟨⟨d, hd, rfl⟩, hb2⟩
    rw [HU.out]
    have hrd : (wideA d).size = 4 := by rw [size_wideA, hd]
    have HRD := Lib.hid hrd
    have HB2 := Lib.hid (HB1.out.trans (hb2.mono HB1.out.size))
    clear hd hrd hb2
    go_wp2_with ((with_reducible refine wpList_store_row ?_ 102 (.tmp 5) (.tmp 14) ?_ W2.heap.size (wideA d) ?_ ?_ 102 _ (heap_alloc_new W2 _) ?_ ?_ ?_ ?_);  (next => rfl); (next => rfl); (next => rfl); (next => rfl); (next => rw [HRD.out]; kernel_rfl); (next => rw [HRD.out]; rfl); (next => exact all_wide _); rw [World.setRow_alloc_new])
    all_goals
      go_ret
      exact ⟨rfl, HB2.out.alloc (HB2.out.size) _⟩
theorem cmp_any (a b : Nat) (ha : a < 18446744073709551616 ^ 4) (hb : b < 18446744073709551616 ^ 4) (w : World) :
    Calls Try.prog 62 #[wideN a, wideN b] w fun e w' => e = .returned (.int .i64 (cmpI a b)) ∧ Below w.heap.size w w' := by
  have hbo := borrow_val (digs 4 a) (digs 4 b) (length_digs _ _) (length_digs _ _) (digs_lt 4 a) (digs_lt 4 b)
  rw [val_digs 4 a ha, val_digs 4 b hb] at hbo
  have := cmp_at (digs 4 a) (digs 4 b) (length_digs _ _) (length_digs _ _) _ _ (digs_inj a b ha hb) hbo w
  unfold cmpI wideN
  simpa only [decide_eq_true_eq] using this
end Go.Proofs.Ytdecbimklomdjaa
