/- A block of SHA-256 by natural numbers, for the message of a million letters. -/
import Derived.Test.YtdecbimklomdjaaPure
namespace Go.Proofs.Ytdecbimklomdjaa.Sha
structure N8 where
  a : Nat
  b : Nat
  c : Nat
  d : Nat
  e : Nat
  f : Nat
  g : Nat
  h : Nat
/-- A word that stands beside itself. -/
def dbl (x : Nat) : Nat := Nat.mul x 4294967297
def nS1 (x : Nat) : Nat := Nat.xor (Nat.xor (Nat.shiftRight x 6) (Nat.shiftRight x 11)) (Nat.shiftRight x 25)
def nS0 (x : Nat) : Nat := Nat.xor (Nat.xor (Nat.shiftRight x 2) (Nat.shiftRight x 13)) (Nat.shiftRight x 22)
def nch (e f g : Nat) : Nat := Nat.xor (Nat.land e f) (Nat.land (Nat.xor e 4294967295) g)
def nmaj (a b c : Nat) : Nat := Nat.xor (Nat.xor (Nat.land a b) (Nat.land a c)) (Nat.land b c)
def nt1 (kw e f g h : Nat) : Nat := Nat.add (Nat.add (Nat.add h (Nat.mod (nS1 (dbl e)) 4294967296)) (nch e f g)) kw
def nt2 (a b c : Nat) : Nat := Nat.add (Nat.mod (nS0 (dbl a)) 4294967296) (nmaj a b c)
def nrs (z : Nat → Nat → Nat → Nat → Nat → Nat → Nat → Nat → N8) : List Nat → Nat → Nat → Nat → Nat → Nat → Nat → Nat → Nat → N8
  | [], a, b, c, d, e, f, g, h => z a b c d e f g h
  | kw :: l, a, b, c, d, e, f, g, h => nrs z l (Nat.mod (Nat.add (nt1 kw e f g h) (nt2 a b c)) 4294967296) a b c (Nat.mod (Nat.add d (nt1 kw e f g h)) 4294967296) e f g
def nblk (kw : List Nat) (s : N8) : N8 :=
  nrs (fun a b c d e f g h => ⟨Nat.mod (Nat.add s.a a) 4294967296, Nat.mod (Nat.add s.b b) 4294967296, Nat.mod (Nat.add s.c c) 4294967296, Nat.mod (Nat.add s.d d) 4294967296, Nat.mod (Nat.add s.e e) 4294967296, Nat.mod (Nat.add s.f f) 4294967296, Nat.mod (Nat.add s.g g) 4294967296, Nat.mod (Nat.add s.h h) 4294967296⟩) kw s.a s.b s.c s.d s.e s.f s.g s.h
def nz (s : N8) : Bool := Nat.beq (Nat.add (Nat.add (Nat.add s.a s.b) (Nat.add s.c s.d)) (Nat.add (Nat.add s.e s.f) (Nat.add s.g s.h))) 0
def KW : List Nat := [2750124281, 3533219314, 388128048, 1259814150, 2595759036, 3142742866, 4087407621, 209567798, 963185657, 1944370274,
 2240997151, 3060653860, 3558850261, 3795850079, 4248659976, 587027157, 3667503101, 3854337474, 1109373709, 1449834259,
 1332383432, 1811277571, 1402599420, 41923541, 356419487, 2728937732, 4167673427, 1780128268, 3506461443, 1927923708,
 3100717738, 957412701, 3211936012, 2525724465, 897656708, 2750766458, 3733122911, 1490448492, 1007131835, 215170638,
 199900175, 3051847127, 2546784594, 1198467073, 1121424104, 1993824782, 4206943767, 1385611443, 2838015846, 320495253,
 2870002303, 616322403, 3868675357, 810932918, 4192983651, 4114851946, 2567787456, 3518289627, 3043469264, 3431775655,
 2875437985, 3700493388, 2838780141, 3572068108]
/-- n blocks of letters 'a'; none if a state of zeros comes up. -/
def nrun : Nat → N8 → Option N8
  | 0, s => cond (nz s) none (some s)
  | n + 1, s => cond (nz s) none (nrun n (nblk KW s))
def nis (o : Option N8) (t : N8) : Bool := match o with
  | none => false
  | some s => and (and (and (Nat.beq s.a t.a) (Nat.beq s.b t.b)) (and (Nat.beq s.c t.c) (Nat.beq s.d t.d))) (and (and (Nat.beq s.e t.e) (Nat.beq s.f t.f)) (and (Nat.beq s.g t.g) (Nat.beq s.h t.h)))
def niv : N8 := ⟨0x6a09e667, 0xbb67ae85, 0x3c6ef372, 0xa54ff53a, 0x510e527f, 0x9b05688c, 0x1f83d9ab, 0x5be0cd19⟩

end Go.Proofs.Ytdecbimklomdjaa.Sha
