/- purser/wide: Mul. -/
import Derived.Test.YtdecbimklomdjaaCmp
namespace Go.Proofs.Ytdecbimklomdjaa
open Go Go.RowKit Go.Shelf
theorem val_set : ∀ (l : List Nat) (k x : Nat), k < l.length → val (l.set k x) + l.getD k 0 * 18446744073709551616 ^ k = val l + x * 18446744073709551616 ^ k
  | [], k, x, h => by simp at h
  | y :: l, 0, x, _ => by simp [val]; omega
  | y :: l, k + 1, x, h => by
    have ih := val_set l k x (by simpa using h)
    simp only [List.set_cons_succ, val, List.getD_cons_succ, Nat.pow_succ]
    have e1 : l.getD k 0 * (18446744073709551616 ^ k * 18446744073709551616) = (l.getD k 0 * 18446744073709551616 ^ k) * 18446744073709551616 := by rw [Nat.mul_assoc]
    have e2 : x * (18446744073709551616 ^ k * 18446744073709551616) = (x * 18446744073709551616 ^ k) * 18446744073709551616 := by rw [Nat.mul_assoc]
    rw [e1, e2]
    omega
theorem val_take_succ : ∀ (l : List Nat) (k : Nat), k < l.length → val (l.take (k + 1)) = val (l.take k) + l.getD k 0 * 18446744073709551616 ^ k
  | [], k, h => by simp at h
  | y :: l, 0, _ => by simp [val]
  | y :: l, k + 1, h => by
    have ih := val_take_succ l k (by simpa using h)
    simp only [List.take_succ_cons, val, List.getD_cons_succ, Nat.pow_succ] at ih ⊢
    have e : l.getD k 0 * (18446744073709551616 ^ k * 18446744073709551616) = 18446744073709551616 * (l.getD k 0 * 18446744073709551616 ^ k) := by rw [← Nat.mul_assoc, Nat.mul_comm]
    rw [ih, e]
    omega
theorem val_append : ∀ (a b : List Nat), val (a ++ b) = val a + 18446744073709551616 ^ a.length * val b
  | [], b => by simp [val]
  | x :: a, b => by
    have ih := val_append a b
    simp only [List.cons_append, val, List.length_cons, Nat.pow_succ, ih]
    rw [Nat.mul_add, Nat.mul_comm (18446744073709551616 ^ a.length) 18446744073709551616, Nat.mul_assoc]
    omega
theorem val_lt : ∀ (l : List Nat), (∀ x ∈ l, x < 18446744073709551616) → val l < 18446744073709551616 ^ l.length
  | [], _ => by simp [val]
  | x :: l, h => by
    have hx := h x (by simp)
    have ih := val_lt l (fun y hy => h y (by simp [hy]))
    simp only [val, List.length_cons, Nat.pow_succ]
    omega
/-- One step of the inner loop, by numbers. -/
theorem mul_step (x y o c P : Nat) (hx : x < 18446744073709551616) (hy : y < 18446744073709551616) (ho : o < 18446744073709551616) (hc : c < 18446744073709551616) :
    x * y / 18446744073709551616 + (x * y % 18446744073709551616 + o) / 18446744073709551616 + ((x * y % 18446744073709551616 + o) % 18446744073709551616 + c) / 18446744073709551616 < 18446744073709551616 ∧
    ((x * y % 18446744073709551616 + o) % 18446744073709551616 + c) % 18446744073709551616 * P + (x * y / 18446744073709551616 + (x * y % 18446744073709551616 + o) / 18446744073709551616 + ((x * y % 18446744073709551616 + o) % 18446744073709551616 + c) / 18446744073709551616) * (P * 18446744073709551616) = x * y * P + o * P + c * P := by
  have hxy : x * y ≤ 18446744073709551615 * 18446744073709551615 := Nat.mul_le_mul (by omega) (by omega)
  generalize x * y = p at *
  have e : ∀ z, z * (P * 18446744073709551616) = (z * 18446744073709551616) * P := fun z => by rw [Nat.mul_comm P, Nat.mul_assoc]
  refine ⟨by omega, ?_⟩
  rw [e, ← Nat.add_mul, ← Nat.add_mul, ← Nat.add_mul]
  congr 1
  omega
/-- The inner loop's relation. -/
def MulIn (la lb : List Nat) (i k : Nat) (out : List Nat) (c : Nat) : Prop :=
  out.length = 8 ∧ (∀ x ∈ out, x < 18446744073709551616) ∧ c < 18446744073709551616 ∧ (∀ j, i + 4 ≤ j → out.getD j 0 = 0) ∧
  val out + c * 18446744073709551616 ^ (i + k) = val (la.take i) * val lb + la.getD i 0 * val (lb.take k) * 18446744073709551616 ^ i
theorem mem_set_lt {l : List Nat} {k x : Nat} (h : ∀ y ∈ l, y < 18446744073709551616) (hx : x < 18446744073709551616) : ∀ y ∈ l.set k x, y < 18446744073709551616 := by
  intro y hy
  rcases List.mem_or_eq_of_mem_set hy with h1 | rfl
  · exact h y h1
  · exact hx
theorem getD_lt {l : List Nat} {k : Nat} (h : ∀ y ∈ l, y < 18446744073709551616) : l.getD k 0 < 18446744073709551616 := by
  by_cases hk : k < l.length
  · rw [List.getD, List.getElem?_eq_getElem hk]; exact h _ (List.getElem_mem _)
  · rw [List.getD, List.getElem?_eq_none (by omega)]; simp
theorem getD_set_other {l : List Nat} {k j x : Nat} (h : k ≠ j) : (l.set k x).getD j 0 = l.getD j 0 := by
  rw [List.getD, List.getD, List.getElem?_set_ne h]
theorem MulIn.step {la lb : List Nat} {i k : Nat} {out : List Nat} {c : Nat} (hlb : lb.length = 4) (hi : i < 4) (hk : k < 4) (h : MulIn la lb i k out c)
    (ha : ∀ x ∈ la, x < 18446744073709551616) (hb : ∀ x ∈ lb, x < 18446744073709551616) (x y o : Nat) (hx : x = la.getD i 0) (hy : y = lb.getD k 0) (ho : o = out.getD (i + k) 0) :
    MulIn la lb i (k + 1) (out.set (i + k) (((x * y % 18446744073709551616 + o) % 18446744073709551616 + c) % 18446744073709551616))
      (x * y / 18446744073709551616 + (x * y % 18446744073709551616 + o) / 18446744073709551616 + ((x * y % 18446744073709551616 + o) % 18446744073709551616 + c) / 18446744073709551616) := by
  obtain ⟨h1, h2, h3, h4, h5⟩ := h
  obtain ⟨m1, m2⟩ := mul_step x y o c (18446744073709551616 ^ (i + k)) (by rw [hx]; exact getD_lt ha) (by rw [hy]; exact getD_lt hb) (by rw [ho]; exact getD_lt h2) h3
  refine ⟨by rw [List.length_set]; exact h1, mem_set_lt h2 (Nat.mod_lt _ (by omega)), m1, fun j hj => ?_, ?_⟩
  · rw [getD_set_other (by omega)]; exact h4 j hj
  · have hs := val_set out (i + k) (((x * y % 18446744073709551616 + o) % 18446744073709551616 + c) % 18446744073709551616) (by omega)
    rw [← ho] at hs
    generalize ((x * y % 18446744073709551616 + o) % 18446744073709551616 + c) % 18446744073709551616 = s at *
    generalize (x * y / 18446744073709551616 + (x * y % 18446744073709551616 + o) / 18446744073709551616 + ((x * y % 18446744073709551616 + o) % 18446744073709551616 + c) / 18446744073709551616) = c' at *
    rw [val_take_succ lb k (by omega), ← hy, ← hx, Nat.mul_add, Nat.add_mul, show i + (k + 1) = (i + k) + 1 by omega, Nat.pow_succ]
    rw [← hx] at h5
    have e3 : x * (y * 18446744073709551616 ^ k) * 18446744073709551616 ^ i = x * y * 18446744073709551616 ^ (i + k) := by
      rw [Nat.pow_add, ← Nat.mul_assoc x y, Nat.mul_assoc (x * y), Nat.mul_comm (18446744073709551616 ^ k)]
    rw [e3]
    omega
/-- The outer loop's. -/
def MulOut (la lb : List Nat) (i : Nat) (out : List Nat) : Prop :=
  out.length = 8 ∧ (∀ x ∈ out, x < 18446744073709551616) ∧ (∀ j, i + 4 ≤ j → out.getD j 0 = 0) ∧ val out = val (la.take i) * val lb
theorem MulOut.start (la lb : List Nat) : MulOut la lb 0 [0, 0, 0, 0, 0, 0, 0, 0] := by
  refine ⟨rfl, by simp, fun j _ => ?_, by simp [val]⟩
  match j with
  | 0 | 1 | 2 | 3 | 4 | 5 | 6 | 7 => rfl
  | j + 8 => rfl
theorem MulOut.enter {la lb : List Nat} {i : Nat} {out : List Nat} (h : MulOut la lb i out) : MulIn la lb i 0 out 0 := by
  obtain ⟨h1, h2, h3, h4⟩ := h
  exact ⟨h1, h2, by omega, h3, by simp [val, h4]⟩
theorem MulIn.leave {la lb : List Nat} {i : Nat} {out : List Nat} {c : Nat} (hla : la.length = 4) (hlb : lb.length = 4) (hi : i < 4) (h : MulIn la lb i 4 out c) : MulOut la lb (i + 1) (out.set (i + 4) c) := by
  obtain ⟨h1, h2, h3, h4, h5⟩ := h
  refine ⟨by rw [List.length_set]; exact h1, mem_set_lt h2 h3, fun j hj => ?_, ?_⟩
  · rw [getD_set_other (by omega)]; exact h4 j (by omega)
  · have hs := val_set out (i + 4) c (by omega)
    rw [h4 (i + 4) (by omega)] at hs
    rw [val_take_succ la i (by omega), Nat.add_mul]
    rw [List.take_of_length_le (show lb.length ≤ 4 by omega)] at h5
    have e : la.getD i 0 * 18446744073709551616 ^ i * val lb = la.getD i 0 * val lb * 18446744073709551616 ^ i := by
      rw [Nat.mul_assoc, Nat.mul_assoc, Nat.mul_comm (val lb)]
    rw [e]
    rw [Nat.zero_mul] at hs
    omega
theorem MulOut.done {la lb out : List Nat} (hla : la.length = 4) (h : MulOut la lb 4 out) : out.take 4 = digs 4 (val la * val lb % 18446744073709551616 ^ 4) ∧ out.drop 4 = digs 4 (val la * val lb / 18446744073709551616 ^ 4) := by
  obtain ⟨h1, h2, _, h4⟩ := h
  rw [List.take_of_length_le (by omega)] at h4
  have l1 : (out.take 4).length = 4 := by rw [List.length_take]; omega
  have l2 : (out.drop 4).length = 4 := by rw [List.length_drop]; omega
  have a1 : ∀ x ∈ out.take 4, x < 18446744073709551616 := fun x hx => h2 x (List.mem_of_mem_take hx)
  have a2 : ∀ x ∈ out.drop 4, x < 18446744073709551616 := fun x hx => h2 x (List.mem_of_mem_drop hx)
  have v1 := val_lt _ a1
  rw [l1] at v1
  have hv := val_append (out.take 4) (out.drop 4)
  rw [List.take_append_drop, l1] at hv
  have d1 := digs_val _ a1
  have d2 := digs_val _ a2
  rw [l1] at d1
  rw [l2] at d2
  rw [← h4, hv]
  constructor
  · rw [Nat.add_mul_mod_self_left, Nat.mod_eq_of_lt v1, d1]
  · rw [Nat.add_mul_div_left _ _ (Nat.pow_pos (by omega)), Nat.div_eq_of_lt v1, Nat.zero_add, d2]
end Go.Proofs.Ytdecbimklomdjaa
