/- The tables' roots: the plain law. -/
import Derived.Test.YtdecbimklomdjaaPure
namespace Go.Proofs.Ytdecbimklomdjaa
/-- No number from 2 on and below d divides p. -/
def tst (p d : Nat) : Bool := (List.range d).all fun e => decide (e < 2) || p % e != 0
def isPr (p : Nat) : Bool := decide (2 ≤ p) && tst p p
/-- How many primes there are up to p. -/
def cnt : Nat → Nat
  | 0 => 0
  | p + 1 => cnt p + if isPr (p + 1) then 1 else 0
theorem tst_succ (p d : Nat) (h : 2 ≤ d) : tst p (d + 1) = (tst p d && (p % d != 0)) := by
  unfold tst
  rw [List.range_succ, List.all_append]
  have : decide (d < 2) = false := by simp; omega
  simp [this]
theorem tst_two (p : Nat) : tst p 2 = true := rfl
theorem tst_end : ∀ p, p < 312 → ∀ d, d < 20 → 2 ≤ d ∧ 2 ≤ p ∧ p < d * d ∧ (d - 1) * (d - 1) ≤ p → tst p d = isPr p := by decide +kernel
theorem cnt_one : cnt 1 = 0 := by decide
theorem cnt_le : ∀ p, p < 312 → cnt p ≤ 64 ∧ (cnt p < 64 → p < 311) := by decide +kernel
/-- The whole part of a root. -/
def irt (t q : Nat) : Nat := ((List.range 20).find? fun x => decide (q < (x + 1) ^ t)).getD 0
def lowOf (t q : Nat) : Nat := if t = 2 then (Sha.iv.list.getD (cnt (q - 1)) 0).toNat else (Sha.K.getD (cnt (q - 1)) 0).toNat
theorem irt_le : ∀ q, q < 312 → irt 2 q ≤ 17 ∧ irt 3 q ≤ 17 := by decide +kernel
theorem irt_at : ∀ q, q < 312 → ∀ x, x < 18 → (x ≤ irt 2 q → decide ((x + 1) ^ 2 ≤ q) = decide (x < irt 2 q)) ∧ (x ≤ irt 3 q → decide ((x + 1) ^ 3 ≤ q) = decide (x < irt 3 q)) := by decide +kernel
theorem roots_ok : ∀ q, q < 312 → isPr q = true →
    (cnt (q - 1) < 8 → (irt 2 q * 4294967296 + lowOf 2 q) ^ 2 ≤ q * 18446744073709551616 ∧ q * 18446744073709551616 < (irt 2 q * 4294967296 + lowOf 2 q + 1) ^ 2) ∧
    ((irt 3 q * 4294967296 + lowOf 3 q) ^ 3 ≤ q * 79228162514264337593543950336 ∧ q * 79228162514264337593543950336 < (irt 3 q * 4294967296 + lowOf 3 q + 1) ^ 3) := by decide +kernel
end Go.Proofs.Ytdecbimklomdjaa
