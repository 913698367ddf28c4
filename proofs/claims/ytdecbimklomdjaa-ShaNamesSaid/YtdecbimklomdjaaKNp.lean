import Derived.Test.YtdecbimklomdjaaKNb
namespace Go.Proofs.Ytdecbimklomdjaa.Sha
theorem rot_nat (x : W) (n : Nat) (h1 : 1 ≤ n) (h2 : n < 32) : (dbl x.toNat >>> n) % 4294967296 = (rotr x n).toNat := by
  have hx : x.toNat < 2 ^ 32 := x.isLt
  have hd : dbl x.toNat = 2 ^ 32 * x.toNat + x.toNat := by show x.toNat * 4294967297 = _; omega
  apply Nat.eq_of_testBit_eq
  intro i
  rw [show (rotr x n).toNat.testBit i = (rotr x n).getLsbD i from rfl, show (4294967296 : Nat) = 2 ^ 32 from rfl, Nat.testBit_mod_two_pow, Nat.testBit_shiftRight, hd, Nat.testBit_two_pow_mul_add _ hx]
  by_cases hi : i < 32
  · unfold rotr
    rw [BitVec.getLsbD_or, BitVec.getLsbD_shiftLeft, BitVec.getLsbD_ushiftRight]
    rw [show decide (i < 32) = true from decide_eq_true hi, Bool.true_and, Bool.true_and]
    by_cases hj : n + i < 32
    · rw [if_pos hj, show decide (i < 32 - n) = true from decide_eq_true (by omega)]
      simp [BitVec.getLsbD]
    · rw [if_neg hj, show decide (i < 32 - n) = false from decide_eq_false (by omega), show n + i - 32 = i - (32 - n) by omega, BitVec.getLsbD_of_ge x (n + i) (by omega)]
      simp [BitVec.getLsbD]
  · rw [BitVec.getLsbD_of_ge _ i (by omega), show decide (i < 32) = false from decide_eq_false hi, Bool.false_and]
theorem nS1_eq (x : W) : nS1 (dbl x.toNat) % 4294967296 = (Sg1 x).toNat := by
  show ((dbl x.toNat >>> 6) ^^^ (dbl x.toNat >>> 11) ^^^ (dbl x.toNat >>> 25)) % 2 ^ 32 = _
  rw [Nat.xor_mod_two_pow, Nat.xor_mod_two_pow]
  show (dbl x.toNat >>> 6) % 4294967296 ^^^ (dbl x.toNat >>> 11) % 4294967296 ^^^ (dbl x.toNat >>> 25) % 4294967296 = _
  rw [rot_nat x 6 (by decide) (by decide), rot_nat x 11 (by decide) (by decide), rot_nat x 25 (by decide) (by decide)]
  unfold Sg1
  rw [BitVec.toNat_xor, BitVec.toNat_xor]
theorem nS0_eq (x : W) : nS0 (dbl x.toNat) % 4294967296 = (Sg0 x).toNat := by
  show ((dbl x.toNat >>> 2) ^^^ (dbl x.toNat >>> 13) ^^^ (dbl x.toNat >>> 22)) % 2 ^ 32 = _
  rw [Nat.xor_mod_two_pow, Nat.xor_mod_two_pow]
  show (dbl x.toNat >>> 2) % 4294967296 ^^^ (dbl x.toNat >>> 13) % 4294967296 ^^^ (dbl x.toNat >>> 22) % 4294967296 = _
  rw [rot_nat x 2 (by decide) (by decide), rot_nat x 13 (by decide) (by decide), rot_nat x 22 (by decide) (by decide)]
  unfold Sg0
  rw [BitVec.toNat_xor, BitVec.toNat_xor]
theorem nch_eq (e f g : W) : nch e.toNat f.toNat g.toNat = (ch e f g).toNat := by
  unfold ch
  rw [← BitVec.xor_allOnes, BitVec.toNat_xor, BitVec.toNat_and, BitVec.toNat_and, BitVec.toNat_xor]
  rfl
theorem nmaj_eq (a b c : W) : nmaj a.toNat b.toNat c.toNat = (maj a b c).toNat := by
  unfold maj
  rw [BitVec.toNat_xor, BitVec.toNat_xor, BitVec.toNat_and, BitVec.toNat_and, BitVec.toNat_and]
  rfl
def St.nat (s : St) : N8 := ⟨s.a.toNat, s.b.toNat, s.c.toNat, s.d.toNat, s.e.toNat, s.f.toNat, s.g.toNat, s.h.toNat⟩
theorem round_nat (s : St) (k w : W) (kw : Nat) (hkw : kw = (k.toNat + w.toNat) % 4294967296) :
    Nat.mod (Nat.add (nt1 kw s.e.toNat s.f.toNat s.g.toNat s.h.toNat) (nt2 s.a.toNat s.b.toNat s.c.toNat)) 4294967296 = (round s k w).a.toNat ∧
    Nat.mod (Nat.add s.d.toNat (nt1 kw s.e.toNat s.f.toNat s.g.toNat s.h.toNat)) 4294967296 = (round s k w).e.toNat := by
  have e1 := nS1_eq s.e
  have e2 := nS0_eq s.a
  have e3 := nch_eq s.e s.f s.g
  have e4 := nmaj_eq s.a s.b s.c
  have t1 : nt1 kw s.e.toNat s.f.toNat s.g.toNat s.h.toNat = s.h.toNat + (Sg1 s.e).toNat + (ch s.e s.f s.g).toNat + kw := by
    rw [← e1, ← e3]; rfl
  have t2 : nt2 s.a.toNat s.b.toNat s.c.toNat = (Sg0 s.a).toNat + (maj s.a s.b s.c).toNat := by
    rw [← e2, ← e4]; rfl
  rw [t1, t2, hkw]
  constructor
  · show (_ + _) % 4294967296 = (s.h + Sg1 s.e + ch s.e s.f s.g + k + w + (Sg0 s.a + maj s.a s.b s.c)).toNat
    simp only [BitVec.toNat_add]
    omega
  · show (_ + _) % 4294967296 = (s.d + (s.h + Sg1 s.e + ch s.e s.f s.g + k + w)).toNat
    simp only [BitVec.toNat_add]
    omega
theorem KW_get : ∀ i, i < 64 → KW[i]? = some (((K.getD i 0).toNat + ((sched (List.replicate 64 97) 64).getD i 0).toNat) % 4294967296) := by decide +kernel
theorem KW_len : KW.length = 64 := by decide
theorem nrs_eq (kl : List Nat) (ws : List W) (hl : kl.length = 64) (hget : ∀ i, i < 64 → kl[i]? = some (((K.getD i 0).toNat + (ws.getD i 0).toNat) % 4294967296)) (s : St) (z : Nat → Nat → Nat → Nat → Nat → Nat → Nat → Nat → N8) : ∀ (j i : Nat), i + j = 64 →
    nrs z (kl.drop i) (rounds ws s i).a.toNat (rounds ws s i).b.toNat (rounds ws s i).c.toNat (rounds ws s i).d.toNat (rounds ws s i).e.toNat (rounds ws s i).f.toNat (rounds ws s i).g.toNat (rounds ws s i).h.toNat =
    z (rounds ws s 64).a.toNat (rounds ws s 64).b.toNat (rounds ws s 64).c.toNat (rounds ws s 64).d.toNat (rounds ws s 64).e.toNat (rounds ws s 64).f.toNat (rounds ws s 64).g.toNat (rounds ws s 64).h.toNat
  | 0, i, h => by
    obtain rfl : i = 64 := by omega
    rw [List.drop_of_length_le (by omega)]
    unfold nrs
    rfl
  | j + 1, i, h => by
    have hi : i < kl.length := by omega
    have hk := hget i (by omega)
    rw [List.getElem?_eq_getElem hi, Option.some.injEq] at hk
    rw [List.drop_eq_getElem_cons hi]
    have ih := nrs_eq kl ws hl hget s z j (i + 1) (by omega)
    rw [← ih]
    have hs : rounds ws s (i + 1) = round (rounds ws s i) (K.getD i 0) (ws.getD i 0) := by rw [rounds]
    rw [hs]
    generalize rounds ws s i = r
    obtain ⟨r1, r2⟩ := round_nat r (K.getD i 0) (ws.getD i 0) _ hk
    generalize K.getD i 0 = k at *
    generalize ws.getD i 0 = x at *
    rw [nrs, r1, r2]
    unfold round
    rfl
theorem add_nat (x y : W) : Nat.mod (Nat.add x.toNat y.toNat) 4294967296 = (x + y).toNat := by
  show (x.toNat + y.toNat) % 4294967296 = _
  simp [BitVec.toNat_add]
theorem nblk_of (kl : List Nat) (m : List UInt8) (hl : kl.length = 64) (hget : ∀ i, i < 64 → kl[i]? = some (((K.getD i 0).toNat + ((sched m 64).getD i 0).toNat) % 4294967296)) (s : St) : nblk kl s.nat = (mix s m).nat := by
  unfold mix
  generalize sched m 64 = ws at *
  have h := nrs_eq kl ws hl hget s (fun a b c d e f g h => ⟨Nat.mod (Nat.add s.nat.a a) 4294967296, Nat.mod (Nat.add s.nat.b b) 4294967296, Nat.mod (Nat.add s.nat.c c) 4294967296, Nat.mod (Nat.add s.nat.d d) 4294967296, Nat.mod (Nat.add s.nat.e e) 4294967296, Nat.mod (Nat.add s.nat.f f) 4294967296, Nat.mod (Nat.add s.nat.g g) 4294967296, Nat.mod (Nat.add s.nat.h h) 4294967296⟩) 64 0 rfl
  unfold nblk
  rw [List.drop_zero, show rounds ws s 0 = s from rfl] at h
  refine h.trans ?_
  generalize rounds ws s 64 = t
  unfold St.add St.nat
  simp only [add_nat]
theorem nblk_eq (s : St) : nblk KW s.nat = (mix s (List.replicate 64 97)).nat := nblk_of KW _ KW_len KW_get s
theorem nat_zero (s : St) (h : nz s.nat = false) : s ≠ St.zero := by
  rintro rfl
  revert h
  decide
/-- n blocks on, none of them with a state of zeros. -/
theorem nrun_eq : ∀ (n : Nat) (s : St) (t : N8), nrun n s.nat = some t → ∃ u : St, u.nat = t ∧ (∀ i, i ≤ n → blocks s (List.replicate (64 * n) 97) i ≠ St.zero) ∧ blocks s (List.replicate (64 * n) 97) n = u
  | 0, s, t, h => by
    unfold nrun at h
    cases hz : nz s.nat with
    | true => rw [hz] at h; cases h
    | false =>
      rw [hz] at h
      refine ⟨s, Option.some.inj h, fun i hi => ?_, rfl⟩
      obtain rfl : i = 0 := by omega
      exact nat_zero s hz
  | n + 1, s, t, h => by
    unfold nrun at h
    cases hz : nz s.nat with
    | true => rw [hz] at h; cases h
    | false =>
      rw [hz] at h
      have h' : nrun n (nblk KW s.nat) = some t := h
      rw [nblk_eq] at h'
      obtain ⟨u, hu, hi, hb⟩ := nrun_eq n _ t h'
      have key : ∀ i, blocks s (List.replicate (64 * (n + 1)) 97) (1 + i) = blocks (mix s (List.replicate 64 97)) (List.replicate (64 * n) 97) i := fun i => by
        rw [blocks_add, List.drop_replicate]
        show blocks (mix s _) _ _ = _
        rw [Nat.zero_mul, List.drop_zero, List.take_replicate]
        rw [show min 64 (64 * (n + 1)) = 64 by omega, show 64 * (n + 1) - 64 * 1 = 64 * n by omega]
      refine ⟨u, hu, fun i hi' => ?_, ?_⟩
      · cases i with
        | zero => exact nat_zero s hz
        | succ i => rw [Nat.add_comm i 1, key i]; exact hi i (by omega)
      · have := key n; rw [Nat.add_comm 1 n] at this; rw [this]; exact hb
end Go.Proofs.Ytdecbimklomdjaa.Sha
