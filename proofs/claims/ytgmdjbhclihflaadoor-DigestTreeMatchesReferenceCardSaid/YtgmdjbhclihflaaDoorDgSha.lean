/- The digest of a string in plain words: no program in sight. -/
namespace Go.Proofs.YtgmdjbhclihflaaDoor.Sha

/-- the words k(0) to k(63) -/
def K : List Nat := [
  0x428a2f98, 0x71374491, 0xb5c0fbcf, 0xe9b5dba5, 0x3956c25b, 0x59f111f1, 0x923f82a4, 0xab1c5ed5,
  0xd807aa98, 0x12835b01, 0x243185be, 0x550c7dc3, 0x72be5d74, 0x80deb1fe, 0x9bdc06a7, 0xc19bf174,
  0xe49b69c1, 0xefbe4786, 0x0fc19dc6, 0x240ca1cc, 0x2de92c6f, 0x4a7484aa, 0x5cb0a9dc, 0x76f988da,
  0x983e5152, 0xa831c66d, 0xb00327c8, 0xbf597fc7, 0xc6e00bf3, 0xd5a79147, 0x06ca6351, 0x14292967,
  0x27b70a85, 0x2e1b2138, 0x4d2c6dfc, 0x53380d13, 0x650a7354, 0x766a0abb, 0x81c2c92e, 0x92722c85,
  0xa2bfe8a1, 0xa81a664b, 0xc24b8b70, 0xc76c51a3, 0xd192e819, 0xd6990624, 0xf40e3585, 0x106aa070,
  0x19a4c116, 0x1e376c08, 0x2748774c, 0x34b0bcb5, 0x391c0cb3, 0x4ed8aa4a, 0x5b9cca4f, 0x682e6ff3,
  0x748f82ee, 0x78a5636f, 0x84c87814, 0x8cc70208, 0x90befffa, 0xa4506ceb, 0xbef9a3f7, 0xc67178f2]
def rotr (n x : Nat) : Nat := x / 2 ^ n ||| x * 2 ^ (32 - n) % 4294967296
def mix2 (x a b : Nat) : Nat := rotr a x ^^^ rotr b x
def mix3 (x a b c : Nat) : Nat := rotr a x ^^^ rotr b x ^^^ rotr c x
/-- the next word of a schedule whose last sixteen words are given -/
def next (w16 w15 w7 w2 : Nat) : Nat := (w16 + (mix2 w15 7 18 ^^^ w15 / 8) + w7 + (mix2 w2 17 19 ^^^ w2 / 1024)) % 4294967296
/-- a schedule of i words becomes one of i + 1 words -/
def grow (w : List Nat) : List Nat := w ++ [next (w.getD (w.length - 16) 0) (w.getD (w.length - 15) 0) (w.getD (w.length - 7) 0) (w.getD (w.length - 2) 0)]
def growN : Nat → List Nat → List Nat
  | 0, w => w
  | n + 1, w => growN n (grow w)
/-- the first sixteen words of a block -/
def first : List Nat → List Nat
  | a :: b :: c :: d :: l => (a * 16777216 + b * 65536 + c * 256 + d) :: first l
  | _ => []
structure V8 where
  a : Nat
  b : Nat
  c : Nat
  d : Nat
  e : Nat
  f : Nat
  g : Nat
  h : Nat
deriving DecidableEq
def step (v : V8) (kw : Nat × Nat) : V8 :=
  let t := v.h + mix3 v.e 6 11 25 + ((v.e &&& v.f) ^^^ ((4294967295 - v.e) &&& v.g)) + kw.1 + kw.2
  let u := mix3 v.a 2 13 22 + ((v.a &&& v.b) ^^^ (v.a &&& v.c) ^^^ (v.b &&& v.c))
  ⟨(t + u) % 4294967296, v.a, v.b, v.c, (v.d + t) % 4294967296, v.e, v.f, v.g⟩
def plus (v w : V8) : V8 := ⟨(v.a + w.a) % 4294967296, (v.b + w.b) % 4294967296, (v.c + w.c) % 4294967296, (v.d + w.d) % 4294967296, (v.e + w.e) % 4294967296, (v.f + w.f) % 4294967296, (v.g + w.g) % 4294967296, (v.h + w.h) % 4294967296⟩
/-- one block of 64 bytes -/
def block (v : V8) (b : List Nat) : V8 := plus v ((K.zip (growN 48 (first b))).foldl step v)
def h0 : V8 := ⟨0x6a09e667, 0xbb67ae85, 0x3c6ef372, 0xa54ff53a, 0x510e527f, 0x9b05688c, 0x1f83d9ab, 0x5be0cd19⟩

def testB : List Nat := [97,98,99,128] ++ List.replicate 59 0 ++ [24]
set_option maxRecDepth 1000000 in
set_option maxHeartbeats 4000000 in
theorem test1 : block h0 testB = ⟨0xba7816bf, 0x8f01cfea, 0x414140de, 0x5dae2223, 0xb00361a3, 0x96177a9c, 0xb410ff61, 0xf20015ad⟩ := by decide +kernel
end Go.Proofs.YtgmdjbhclihflaaDoor.Sha
