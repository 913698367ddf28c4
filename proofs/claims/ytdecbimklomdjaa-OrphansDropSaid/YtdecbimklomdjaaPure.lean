/- Plain SHA-256 over 32-bit words: what the program's package sha computes, as Lean functions on lists (no Go, no memory). -/
namespace Go.Proofs.Ytdecbimklomdjaa.Sha

abbrev W := BitVec 32

def rotr (x : W) (n : Nat) : W := x <<< (32 - n) ||| x >>> n
def sg0 (x : W) : W := rotr x 7 ^^^ rotr x 18 ^^^ x >>> 3
def sg1 (x : W) : W := rotr x 17 ^^^ rotr x 19 ^^^ x >>> 10
def Sg0 (x : W) : W := rotr x 2 ^^^ rotr x 13 ^^^ rotr x 22
def Sg1 (x : W) : W := rotr x 6 ^^^ rotr x 11 ^^^ rotr x 25
def ch (e f g : W) : W := (e &&& f) ^^^ (~~~e &&& g)
def maj (a b c : W) : W := (a &&& b) ^^^ (a &&& c) ^^^ (b &&& c)

structure St where
  a : W
  b : W
  c : W
  d : W
  e : W
  f : W
  g : W
  h : W
deriving DecidableEq

def St.list (s : St) : List W := [s.a, s.b, s.c, s.d, s.e, s.f, s.g, s.h]
def St.zero : St := ⟨0, 0, 0, 0, 0, 0, 0, 0⟩

def iv : St := ⟨0x6a09e667, 0xbb67ae85, 0x3c6ef372, 0xa54ff53a, 0x510e527f, 0x9b05688c, 0x1f83d9ab, 0x5be0cd19⟩

def K : List W := [
  0x428a2f98, 0x71374491, 0xb5c0fbcf, 0xe9b5dba5, 0x3956c25b, 0x59f111f1, 0x923f82a4, 0xab1c5ed5,
  0xd807aa98, 0x12835b01, 0x243185be, 0x550c7dc3, 0x72be5d74, 0x80deb1fe, 0x9bdc06a7, 0xc19bf174,
  0xe49b69c1, 0xefbe4786, 0x0fc19dc6, 0x240ca1cc, 0x2de92c6f, 0x4a7484aa, 0x5cb0a9dc, 0x76f988da,
  0x983e5152, 0xa831c66d, 0xb00327c8, 0xbf597fc7, 0xc6e00bf3, 0xd5a79147, 0x06ca6351, 0x14292967,
  0x27b70a85, 0x2e1b2138, 0x4d2c6dfc, 0x53380d13, 0x650a7354, 0x766a0abb, 0x81c2c92e, 0x92722c85,
  0xa2bfe8a1, 0xa81a664b, 0xc24b8b70, 0xc76c51a3, 0xd192e819, 0xd6990624, 0xf40e3585, 0x106aa070,
  0x19a4c116, 0x1e376c08, 0x2748774c, 0x34b0bcb5, 0x391c0cb3, 0x4ed8aa4a, 0x5b9cca4f, 0x682e6ff3,
  0x748f82ee, 0x78a5636f, 0x84c87814, 0x8cc70208, 0x90befffa, 0xa4506ceb, 0xbef9a3f7, 0xc67178f2]

/-- One byte behind a word. -/
def shiftIn (n : W) (c : UInt8) : W := n <<< 8 ||| (c.toBitVec.setWidth 32)
/-- Four bytes' word. -/
def word (l : List UInt8) : W := (l.take 4).foldl shiftIn 0

/-- The message schedule, as it grows: word i of it, given the words ahead of it. -/
def wnext (m : List UInt8) (l : List W) (i : Nat) : W :=
  if i < 16 then word (m.drop (i * 4))
  else l.getD (i - 16) 0 + l.getD (i - 7) 0 + sg0 (l.getD (i - 15) 0) + sg1 (l.getD (i - 2) 0)
def sched (m : List UInt8) : Nat → List W
  | 0 => []
  | n + 1 => sched m n ++ [wnext m (sched m n) n]

def round (s : St) (k w : W) : St :=
  let one := s.h + Sg1 s.e + ch s.e s.f s.g + k + w
  let two := Sg0 s.a + maj s.a s.b s.c
  ⟨one + two, s.a, s.b, s.c, s.d + one, s.e, s.f, s.g⟩
def rounds (ws : List W) (s : St) : Nat → St
  | 0 => s
  | n + 1 => round (rounds ws s n) (K.getD n 0) (ws.getD n 0)
def St.add (s t : St) : St := ⟨s.a + t.a, s.b + t.b, s.c + t.c, s.d + t.d, s.e + t.e, s.f + t.f, s.g + t.g, s.h + t.h⟩
/-- A block of 64 bytes is taken in. -/
def mix (s : St) (m : List UInt8) : St := s.add (rounds (sched m 64) s 64)

/-- The state behind a message's whole blocks, n of them. -/
def blocks (s : St) (l : List UInt8) : Nat → St
  | 0 => s
  | n + 1 => mix (blocks s l n) ((l.drop (n * 64)).take 64)

/-- The state behind a message's whole blocks; what is left of it. -/
def mid (m : List UInt8) : St := blocks iv m (m.length / 64)
def rest (m : List UInt8) : List UInt8 := m.drop (64 * (m.length / 64))
/-- The bytes behind a message: a mark, zeros, its length in bits. -/
def zerosN (r : Nat) : Nat := (119 - r) % 64
def lenByte (n i : Nat) : UInt8 := UInt8.ofNat (n * 8 % 18446744073709551616 / 2 ^ (8 * i))
def pad (m : List UInt8) : List UInt8 :=
  128 :: (List.replicate (zerosN (rest m).length) 0 ++ [lenByte m.length 7, lenByte m.length 6, lenByte m.length 5, lenByte m.length 4, lenByte m.length 3, lenByte m.length 2, lenByte m.length 1, lenByte m.length 0])
def outByte (s : St) (i : Nat) : UInt8 := UInt8.ofNat ((s.list.getD (i / 4) 0).toNat / 2 ^ (8 * (3 - i % 4)))
def outBytes (s : St) : List UInt8 := (List.range 32).map (outByte s)
def zeros (n : Nat) : List UInt8 := List.replicate n 0
/-- WHAT sha.Of ANSWERS (a state of zeros is taken for a sum that was not made). -/
def hash (m : List UInt8) : List UInt8 := if mid m = St.zero then zeros 32 else outBytes (mid (m ++ pad m))

theorem blocks_add (s : St) (l : List UInt8) (a b : Nat) : blocks s l (a + b) = blocks (blocks s l a) (l.drop (64 * a)) b := by
  induction b with
  | zero => rfl
  | succ b ih =>
    rw [← Nat.add_assoc]
    show mix (blocks s l (a + b)) _ = mix (blocks (blocks s l a) (l.drop (64 * a)) b) _
    rw [ih, List.drop_drop]
    congr 3
    omega
theorem blocks_append (s : St) (l r : List UInt8) (n : Nat) (h : n * 64 ≤ l.length) : blocks s (l ++ r) n = blocks s l n := by
  induction n with
  | zero => rfl
  | succ n ih =>
    show mix (blocks s (l ++ r) n) _ = mix (blocks s l n) _
    rw [ih (by omega), List.drop_append_of_le_length (by omega), List.take_append_of_le_length (by rw [List.length_drop]; omega)]
theorem rest_length (m : List UInt8) : (rest m).length = m.length % 64 := by
  unfold rest; rw [List.length_drop]; omega
theorem drop_rest (m l : List UInt8) : (m ++ l).drop (64 * (m.length / 64)) = rest m ++ l := by
  unfold rest; rw [List.drop_append_of_le_length (by omega)]
theorem len_split (m l : List UInt8) : (m ++ l).length / 64 = m.length / 64 + (rest m ++ l).length / 64 := by
  rw [List.length_append, List.length_append, rest_length]; omega
/-- What Write comes to. -/
theorem mid_append (m l : List UInt8) : mid (m ++ l) = blocks (mid m) (rest m ++ l) ((rest m ++ l).length / 64) := by
  unfold mid
  rw [len_split, blocks_add, drop_rest, blocks_append iv m l (m.length / 64) (by omega)]
theorem rest_append (m l : List UInt8) : rest (m ++ l) = (rest m ++ l).drop (64 * ((rest m ++ l).length / 64)) := by
  rw [← drop_rest, List.drop_drop]
  unfold rest
  rw [len_split, drop_rest]
  congr 1
  omega
theorem sched_length (m : List UInt8) (n : Nat) : (sched m n).length = n := by
  induction n with
  | zero => rfl
  | succ n ih => simp [sched, ih]
end Go.Proofs.Ytdecbimklomdjaa.Sha
