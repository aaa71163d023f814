/- SHA-256 in plain Lean: the schedule, the rounds, the padding. No program in sight. -/
import Derived.KernelRfl
set_option linter.unusedVariables false
set_option linter.unusedSimpArgs false
namespace Go.Proofs.YtdcpejfnhegdaaaDoor
namespace Sha
abbrev Wd := BitVec 32

/-- rotation to the right, by less than 32 -/
def rr (x : Wd) (k : Nat) : Wd := x >>> k ||| x <<< (32 - k)
def s0 (x : Wd) : Wd := rr x 7 ^^^ rr x 18 ^^^ x >>> 3
def s1 (x : Wd) : Wd := rr x 17 ^^^ rr x 19 ^^^ x >>> 10
def S0 (x : Wd) : Wd := rr x 2 ^^^ rr x 13 ^^^ rr x 22
def S1 (x : Wd) : Wd := rr x 6 ^^^ rr x 11 ^^^ rr x 25
def ch (e f g : Wd) : Wd := (e &&& f) ^^^ (~~~e &&& g)
def maj (a b c : Wd) : Wd := (a &&& b) ^^^ (a &&& c) ^^^ (b &&& c)

theorem ch_is (e f g : Wd) : g ^^^ (e &&& (f ^^^ g)) = ch e f g := by
  unfold ch
  ext i hi
  simp only [BitVec.getElem_xor, BitVec.getElem_and, BitVec.getElem_not]
  cases e[i] <;> cases f[i] <;> cases g[i] <;> rfl
theorem maj_is (a b c : Wd) : (a &&& b ||| c &&& (a ||| b)) = maj a b c := by
  unfold maj
  ext i hi
  simp only [BitVec.getElem_xor, BitVec.getElem_and, BitVec.getElem_or]
  cases a[i] <;> cases b[i] <;> cases c[i] <;> rfl

/-- the schedule -/
def sched (b : Nat → Wd) (t : Nat) : Wd :=
  if t < 16 then b t else sched b (t - 16) + s0 (sched b (t - 15)) + sched b (t - 7) + s1 (sched b (t - 2))
termination_by t
decreasing_by all_goals omega

structure St where
  a : Wd
  b : Wd
  c : Wd
  d : Wd
  e : Wd
  f : Wd
  g : Wd
  h : Wd

def kk : List Nat := [
  0x428a2f98, 0x71374491, 0xb5c0fbcf, 0xe9b5dba5, 0x3956c25b, 0x59f111f1, 0x923f82a4, 0xab1c5ed5,
  0xd807aa98, 0x12835b01, 0x243185be, 0x550c7dc3, 0x72be5d74, 0x80deb1fe, 0x9bdc06a7, 0xc19bf174,
  0xe49b69c1, 0xefbe4786, 0x0fc19dc6, 0x240ca1cc, 0x2de92c6f, 0x4a7484aa, 0x5cb0a9dc, 0x76f988da,
  0x983e5152, 0xa831c66d, 0xb00327c8, 0xbf597fc7, 0xc6e00bf3, 0xd5a79147, 0x06ca6351, 0x14292967,
  0x27b70a85, 0x2e1b2138, 0x4d2c6dfc, 0x53380d13, 0x650a7354, 0x766a0abb, 0x81c2c92e, 0x92722c85,
  0xa2bfe8a1, 0xa81a664b, 0xc24b8b70, 0xc76c51a3, 0xd192e819, 0xd6990624, 0xf40e3585, 0x106aa070,
  0x19a4c116, 0x1e376c08, 0x2748774c, 0x34b0bcb5, 0x391c0cb3, 0x4ed8aa4a, 0x5b9cca4f, 0x682e6ff3,
  0x748f82ee, 0x78a5636f, 0x84c87814, 0x8cc70208, 0x90befffa, 0xa4506ceb, 0xbef9a3f7, 0xc67178f2]
def K (t : Nat) : Wd := BitVec.ofNat 32 (kk.getD t 0)

def init : St := ⟨0x6a09e667, 0xbb67ae85, 0x3c6ef372, 0xa54ff53a, 0x510e527f, 0x9b05688c, 0x1f83d9ab, 0x5be0cd19⟩

/-- one round -/
def rnd (k w : Wd) (s : St) : St :=
  let p := s.h + S1 s.e + ch s.e s.f s.g + k + w
  ⟨p + (S0 s.a + maj s.a s.b s.c), s.a, s.b, s.c, s.d + p, s.e, s.f, s.g⟩
def rnds (w : Nat → Wd) (s : St) : Nat → St
  | 0 => s
  | t + 1 => rnd (K t) (w t) (rnds w s t)
def plus (s v : St) : St := ⟨s.a + v.a, s.b + v.b, s.c + v.c, s.d + v.d, s.e + v.e, s.f + v.f, s.g + v.g, s.h + v.h⟩
/-- the state after a block of sixteen words -/
def comp (s : St) (b : Nat → Wd) : St := plus s (rnds (sched b) s 64)

/-- bytes: four of them are a word -/
def word4 (a b c d : UInt8) : Wd := BitVec.ofNat 32 (((a.toNat * 256 + b.toNat) * 256 + c.toNat) * 256 + d.toNat)
/-- the words of a block that begins at place o -/
def words (m : List UInt8) (o t : Nat) : Wd := word4 (m.getD (o + 4 * t) 0) (m.getD (o + 4 * t + 1) 0) (m.getD (o + 4 * t + 2) 0) (m.getD (o + 4 * t + 3) 0)
/-- n blocks -/
def blocks (m : List UInt8) (s : St) : Nat → St
  | 0 => s
  | n + 1 => comp (blocks m s n) (words m (64 * n))

def be8 (n : Nat) : List UInt8 := [UInt8.ofNat (n / 2^56), UInt8.ofNat (n / 2^48), UInt8.ofNat (n / 2^40), UInt8.ofNat (n / 2^32), UInt8.ofNat (n / 2^24), UInt8.ofNat (n / 2^16), UInt8.ofNat (n / 2^8), UInt8.ofNat n]
def zeros (n : Nat) : Nat := (119 - n % 64) % 64
def pad (m : List UInt8) : List UInt8 := m ++ 0x80 :: (List.replicate (zeros m.length) 0 ++ be8 (m.length * 8 % 2^64))
theorem pad_len (m : List UInt8) : (pad m).length % 64 = 0 := by
  unfold pad be8 zeros; simp; omega

def St.out (s : St) (i : Nat) : Wd := match i with
  | 0 => s.a | 1 => s.b | 2 => s.c | 3 => s.d | 4 => s.e | 5 => s.f | 6 => s.g | _ => s.h
def byteOf (w : Wd) (j : Nat) : UInt8 := UInt8.ofNat (w.toNat / 2 ^ (24 - 8 * j))
/-- byte i of the hash -/
def digestOf (s : St) : List UInt8 := (List.range 32).map fun i => byteOf (s.out (i / 4)) (i % 4)
def sum (m : List UInt8) : List UInt8 := digestOf (blocks (pad m) init ((pad m).length / 64))

theorem digestOf_len (s : St) : (digestOf s).length = 32 := by simp [digestOf]
theorem sum_len (m : List UInt8) : (sum m).length = 32 := digestOf_len _
end Sha
end Go.Proofs.YtdcpejfnhegdaaaDoor
