/- ChaCha20 on lists of words: quarters, rounds, blocks. Plain Lean, no program. -/
namespace Go.Proofs.Ytfamcgmgcchppaa

/-- A left turn. -/
def rl (x : BitVec 32) (n : Nat) : BitVec 32 := x <<< n ||| x >>> (32 - n)
structure Q4 where
  a : BitVec 32
  b : BitVec 32
  c : BitVec 32
  d : BitVec 32
/-- A quarter. -/
def qr (a b c d : BitVec 32) : Q4 :=
  let a := a + b
  let d := rl (d ^^^ a) 16
  let c := c + d
  let b := rl (b ^^^ c) 12
  let a := a + b
  let d := rl (d ^^^ a) 8
  let c := c + d
  let b := rl (b ^^^ c) 7
  ⟨a, b, c, d⟩

/-- A quarter of the words at four places. -/
def qset (l : List (BitVec 32)) (a b c d : Nat) : List (BitVec 32) :=
  let q := qr (l.getD a 0) (l.getD b 0) (l.getD c 0) (l.getD d 0)
  (((l.set a q.a).set b q.b).set c q.c).set d q.d
theorem qset_length (l : List (BitVec 32)) (a b c d : Nat) : (qset l a b c d).length = l.length := by simp [qset]

/-- Four bytes, the lowest first. -/
def le4 (a b c d : BitVec 8) : BitVec 32 := ((d.setWidth 32 <<< 8 ||| c.setWidth 32) <<< 8 ||| b.setWidth 32) <<< 8 ||| a.setWidth 32
theorem sh2 (x : BitVec 32) : x <<< 8 <<< 8 = x <<< 16 := (BitVec.shiftLeft_add x 8 8).symm
theorem sh3 (x : BitVec 32) : x <<< 8 <<< 8 <<< 8 = x <<< 24 := by rw [sh2]; exact (BitVec.shiftLeft_add x 8 16).symm
theorem le4_flat (a b c d : BitVec 8) : a.setWidth 32 ||| b.setWidth 32 <<< 8 ||| c.setWidth 32 <<< 16 ||| d.setWidth 32 <<< 24 = le4 a b c d := by
  unfold le4
  rw [BitVec.shiftLeft_or_distrib, BitVec.shiftLeft_or_distrib, BitVec.shiftLeft_or_distrib, sh3, sh2]
  generalize a.setWidth 32 = a
  generalize b.setWidth 32 <<< 8 = b
  generalize c.setWidth 32 <<< 16 = c
  generalize d.setWidth 32 <<< 24 = d
  ac_rfl

/-- A quarter, gone back. -/
def unqr (a b c d : BitVec 32) : Q4 :=
  let b := (b >>> 7 ||| b <<< 25) ^^^ c
  let c := c - d
  let d := (d >>> 8 ||| d <<< 24) ^^^ a
  let a := a - b
  let b := (b >>> 12 ||| b <<< 20) ^^^ c
  let c := c - d
  let d := (d >>> 16 ||| d <<< 16) ^^^ a
  let a := a - b
  ⟨a, b, c, d⟩

/-- The i-th word of bytes. -/
def wd (l : List (BitVec 8)) (i : Nat) : BitVec 32 := le4 (l.getD (4 * i) 0) (l.getD (4 * i + 1) 0) (l.getD (4 * i + 2) 0) (l.getD (4 * i + 3) 0)
/-- The words of a state, filled from place p on with the first k words of bytes. -/
def fillW (p : Nat) (l : List (BitVec 8)) (s : List (BitVec 32)) : Nat → List (BitVec 32)
  | 0 => s
  | k + 1 => (fillW p l s k).set (p + k) (wd l k)
theorem fillW_length (p : Nat) (l : List (BitVec 8)) (s : List (BitVec 32)) (k : Nat) : (fillW p l s k).length = s.length := by
  induction k with
  | zero => rfl
  | succ k ih => simp [fillW, ih]
/-- The state's words at first, the counter at its place. -/
def base0 (ctr : BitVec 32) : List (BitVec 32) := [1634760805#32, 857760878#32, 2036477234#32, 1797285236#32, 0#32, 0#32, 0#32, 0#32, 0#32, 0#32, 0#32, 0#32, ctr, 0#32, 0#32, 0#32]
/-- The words that there are at first. -/
def state0 (key : List (BitVec 8)) (ctr : BitVec 32) (nonce : List (BitVec 8)) : List (BitVec 32) := fillW 13 nonce (fillW 4 key (base0 ctr) 8) 3
theorem state0_length (key : List (BitVec 8)) (ctr : BitVec 32) (nonce : List (BitVec 8)) : (state0 key ctr nonce).length = 16 := by
  simp [state0, fillW_length, base0]

/-- The first k quarters of columns, of diagonals. -/
def colK (l : List (BitVec 32)) : Nat → List (BitVec 32)
  | 0 => l
  | k + 1 => qset (colK l k) k (4 + k) (8 + k) (12 + k)
def diaK (l : List (BitVec 32)) : Nat → List (BitVec 32)
  | 0 => l
  | k + 1 => qset (diaK l k) k (4 + (k + 1) % 4) (8 + (k + 2) % 4) (12 + (k + 3) % 4)
theorem colK_length (l : List (BitVec 32)) (k : Nat) : (colK l k).length = l.length := by
  induction k with
  | zero => rfl
  | succ k ih => simp [colK, qset_length, ih]
theorem diaK_length (l : List (BitVec 32)) (k : Nat) : (diaK l k).length = l.length := by
  induction k with
  | zero => rfl
  | succ k ih => simp [diaK, qset_length, ih]
/-- The first n pairs of rounds. -/
def roundK (l : List (BitVec 32)) : Nat → List (BitVec 32)
  | 0 => l
  | n + 1 => diaK (colK (roundK l n) 4) 4
theorem roundK_length (l : List (BitVec 32)) (n : Nat) : (roundK l n).length = l.length := by
  induction n with
  | zero => rfl
  | succ k ih => simp [roundK, colK_length, diaK_length, ih]
/-- A word's bytes, the lowest first, laid at place 4 k. -/
def put4 (o : List (BitVec 8)) (k : Nat) (x : BitVec 32) : List (BitVec 8) :=
  (((o.set (4 * k) (x.setWidth 8)).set (4 * k + 1) ((x >>> 8).setWidth 8)).set (4 * k + 2) ((x >>> 16).setWidth 8)).set (4 * k + 3) ((x >>> 24).setWidth 8)
/-- The first k words of a block's bytes. -/
def outK (r s : List (BitVec 32)) : Nat → List (BitVec 8)
  | 0 => List.replicate 64 0#8
  | k + 1 => put4 (outK r s k) k (r.getD k 0 + s.getD k 0)
theorem outK_length (r s : List (BitVec 32)) (k : Nat) : (outK r s k).length = 64 := by
  induction k with
  | zero => simp [outK]
  | succ k ih => simp [outK, put4, ih]
/-- The block. -/
def chBlock (key : List (BitVec 8)) (ctr : BitVec 32) (nonce : List (BitVec 8)) : List (BitVec 8) :=
  outK (roundK (state0 key ctr nonce) 10) (state0 key ctr nonce) 16
theorem chBlock_length (key : List (BitVec 8)) (ctr : BitVec 32) (nonce : List (BitVec 8)) : (chBlock key ctr nonce).length = 64 := outK_length _ _ _

/-- The byte at place t of the stream from a counter on. -/
def ksb (key : List (BitVec 8)) (ctr : BitVec 32) (nonce : List (BitVec 8)) (t : Nat) : BitVec 8 := (chBlock key (ctr + BitVec.ofNat 32 (t / 64)) nonce).getD (t % 64) 0
/-- Bytes of which the first m are xored with a stream s; the others are noughts. -/
def xorM (s : Nat → BitVec 8) (b : List (BitVec 8)) (m : Nat) : List (BitVec 8) := (List.range b.length).map fun t => if t < m then b.getD t 0 ^^^ s t else 0
theorem xorM_length (s : Nat → BitVec 8) (b : List (BitVec 8)) (m : Nat) : (xorM s b m).length = b.length := by simp [xorM]
theorem xorM_zero (s : Nat → BitVec 8) (b : List (BitVec 8)) : xorM s b 0 = List.replicate b.length 0 := by
  simp [xorM, List.map_const']
theorem xorM_set (s : Nat → BitVec 8) (b : List (BitVec 8)) (m : Nat) (_h : m < b.length) : (xorM s b m).set m (b.getD m 0 ^^^ s m) = xorM s b (m + 1) := by
  apply List.ext_getElem
  · simp [xorM]
  · intro i h1 h2
    simp only [xorM, List.getElem_set, List.getElem_map, List.getElem_range]
    by_cases hi : m = i
    · subst hi
      simp
    · rw [if_neg hi]
      have : i < m ↔ i < m + 1 := by omega
      simp [this]
theorem xorM_all (s : Nat → BitVec 8) (b : List (BitVec 8)) (m : Nat) (h : b.length ≤ m) : xorM s b m = xorM s b b.length := by
  unfold xorM
  apply List.map_congr_left
  intro t ht
  have := List.mem_range.1 ht
  rw [if_pos (by omega), if_pos (by omega)]
/-- Bytes xored with the stream. -/
def chXor (key : List (BitVec 8)) (ctr : BitVec 32) (nonce : List (BitVec 8)) (b : List (BitVec 8)) : List (BitVec 8) := xorM (ksb key ctr nonce) b b.length
theorem chXor_length (key : List (BitVec 8)) (ctr : BitVec 32) (nonce : List (BitVec 8)) (b : List (BitVec 8)) : (chXor key ctr nonce b).length = b.length := xorM_length _ _ _
theorem ksb_at (key : List (BitVec 8)) (ctr : BitVec 32) (nonce : List (BitVec 8)) (j k : Nat) (hk : k < 64) : ksb key ctr nonce (64 * j + k) = (chBlock key (ctr + BitVec.ofNat 32 j) nonce).getD k 0 := by
  unfold ksb
  rw [show (64 * j + k) / 64 = j by omega, show (64 * j + k) % 64 = k by omega]
end Go.Proofs.Ytfamcgmgcchppaa
