/- SHA-256 in plain Lean: words, steps, blocks, filling. -/
import Derived.Test.YtfamcgmgcchppaaRow
namespace Go.Proofs.Ytfamcgmgcchppaa
def rotr (x : BitVec 32) (n : Nat) : BitVec 32 := x >>> n ||| x <<< (32 - n)
def lg0 (x : BitVec 32) : BitVec 32 := rotr x 7 ^^^ rotr x 18 ^^^ x >>> 3
def lg1 (x : BitVec 32) : BitVec 32 := rotr x 17 ^^^ rotr x 19 ^^^ x >>> 10
def ug0 (x : BitVec 32) : BitVec 32 := rotr x 2 ^^^ rotr x 13 ^^^ rotr x 22
def ug1 (x : BitVec 32) : BitVec 32 := rotr x 6 ^^^ rotr x 11 ^^^ rotr x 25
def shCh (e f g : BitVec 32) : BitVec 32 := g ^^^ (e &&& (f ^^^ g))
def shMaj (a b c : BitVec 32) : BitVec 32 := (a &&& b) ||| (c &&& (a ||| b))
theorem shCh_ref (e f g : BitVec 32) : (e &&& f) ^^^ (~~~e &&& g) = shCh e f g := by
  apply BitVec.eq_of_getLsbD_eq
  intro i hi
  simp only [shCh, BitVec.getLsbD_xor, BitVec.getLsbD_and, BitVec.getLsbD_not, hi, decide_true, Bool.true_and]
  cases e.getLsbD i <;> cases f.getLsbD i <;> cases g.getLsbD i <;> rfl
theorem shMaj_ref (a b c : BitVec 32) : (a &&& b) ^^^ (a &&& c) ^^^ (b &&& c) = shMaj a b c := by
  apply BitVec.eq_of_getLsbD_eq
  intro i hi
  simp only [shMaj, BitVec.getLsbD_xor, BitVec.getLsbD_and, BitVec.getLsbD_or]
  cases a.getLsbD i <;> cases b.getLsbD i <;> cases c.getLsbD i <;> rfl
/-- The words that the steps add, and the state at first. -/
def shK : List (BitVec 32) := [
  0x428a2f98, 0x71374491, 0xb5c0fbcf, 0xe9b5dba5, 0x3956c25b, 0x59f111f1, 0x923f82a4, 0xab1c5ed5,
  0xd807aa98, 0x12835b01, 0x243185be, 0x550c7dc3, 0x72be5d74, 0x80deb1fe, 0x9bdc06a7, 0xc19bf174,
  0xe49b69c1, 0xefbe4786, 0x0fc19dc6, 0x240ca1cc, 0x2de92c6f, 0x4a7484aa, 0x5cb0a9dc, 0x76f988da,
  0x983e5152, 0xa831c66d, 0xb00327c8, 0xbf597fc7, 0xc6e00bf3, 0xd5a79147, 0x06ca6351, 0x14292967,
  0x27b70a85, 0x2e1b2138, 0x4d2c6dfc, 0x53380d13, 0x650a7354, 0x766a0abb, 0x81c2c92e, 0x92722c85,
  0xa2bfe8a1, 0xa81a664b, 0xc24b8b70, 0xc76c51a3, 0xd192e819, 0xd6990624, 0xf40e3585, 0x106aa070,
  0x19a4c116, 0x1e376c08, 0x2748774c, 0x34b0bcb5, 0x391c0cb3, 0x4ed8aa4a, 0x5b9cca4f, 0x682e6ff3,
  0x748f82ee, 0x78a5636f, 0x84c87814, 0x8cc70208, 0x90befffa, 0xa4506ceb, 0xbef9a3f7, 0xc67178f2]
theorem shK_length : shK.length = 64 := rfl
structure S8 where
  a : BitVec 32
  b : BitVec 32
  c : BitVec 32
  d : BitVec 32
  e : BitVec 32
  f : BitVec 32
  g : BitVec 32
  h : BitVec 32
def S8.l (s : S8) : List (BitVec 32) := [s.a, s.b, s.c, s.d, s.e, s.f, s.g, s.h]
theorem S8.l_length (s : S8) : s.l.length = 8 := rfl
def shH : S8 := ⟨0x6a09e667, 0xbb67ae85, 0x3c6ef372, 0xa54ff53a, 0x510e527f, 0x9b05688c, 0x1f83d9ab, 0x5be0cd19⟩
/-- The i-th word of bytes, the highest byte first. -/
def be32 (b : List (BitVec 8)) (i : Nat) : BitVec 32 :=
  (b.getD (4 * i) 0).setWidth 32 <<< 24 ||| (b.getD (4 * i + 1) 0).setWidth 32 <<< 16 ||| (b.getD (4 * i + 2) 0).setWidth 32 <<< 8 ||| (b.getD (4 * i + 3) 0).setWidth 32
/-- The word that follows on k words. -/
def wnext (l : List (BitVec 32)) (k : Nat) : BitVec 32 := l.getD (k - 16) 0 + l.getD (k - 7) 0 + lg0 (l.getD (k - 15) 0) + lg1 (l.getD (k - 2) 0)
def wl (b : List (BitVec 8)) : Nat → List (BitVec 32)
  | 0 => []
  | k + 1 => wl b k ++ [if k < 16 then be32 b k else wnext (wl b k) k]
theorem wl_length (b : List (BitVec 8)) (k : Nat) : (wl b k).length = k := by induction k <;> simp [wl, *]
/-- The array of 64 words when k of them are there. -/
def wArr (b : List (BitVec 8)) (k : Nat) : List (BitVec 32) := wl b k ++ List.replicate (64 - k) 0
theorem wArr_length (b : List (BitVec 8)) (k : Nat) (h : k ≤ 64) : (wArr b k).length = 64 := by simp [wArr, wl_length]; omega
theorem wArr_zero (b : List (BitVec 8)) : wArr b 0 = List.replicate 64 0 := rfl
theorem wArr_all (b : List (BitVec 8)) : wArr b 64 = wl b 64 := by simp [wArr]
theorem wArr_getD (b : List (BitVec 8)) (k j : Nat) (h : j < k) : (wArr b k).getD j 0 = (wl b k).getD j 0 := by
  simp [wArr, List.getD, List.getElem?_append_left (show j < (wl b k).length by rw [wl_length]; exact h)]
theorem wArr_set (b : List (BitVec 8)) (k : Nat) (h : k < 64) (x : BitVec 32) : (wArr b k).set k x = wl b k ++ [x] ++ List.replicate (64 - (k + 1)) 0 := by
  unfold wArr
  rw [List.set_append_right _ _ (by rw [wl_length]; exact Nat.le_refl _), wl_length, Nat.sub_self, show 64 - k = (64 - (k + 1)) + 1 by omega, List.replicate_succ, List.set_cons_zero, List.append_assoc]
  rfl
theorem wArr_low (b : List (BitVec 8)) (k : Nat) (h : k < 16) : (wArr b k).set k (be32 b k) = wArr b (k + 1) := by
  rw [wArr_set b k (by omega)]
  simp [wArr, wl, h]
theorem wArr_high (b : List (BitVec 8)) (k : Nat) (h : 16 ≤ k) (h' : k < 64) : (wArr b k).set k (wnext (wl b k) k) = wArr b (k + 1) := by
  rw [wArr_set b k h']
  simp [wArr, wl, show ¬ k < 16 by omega]
/-- A step, all steps, a block. -/
def S8.t (s : S8) (k x : BitVec 32) : BitVec 32 := s.h + ug1 s.e + shCh s.e s.f s.g + k + x
def S8.u (s : S8) : BitVec 32 := ug0 s.a + shMaj s.a s.b s.c
def S8.round (s : S8) (k x : BitVec 32) : S8 := ⟨s.t k x + s.u, s.a, s.b, s.c, s.d + s.t k x, s.e, s.f, s.g⟩
def rounds (b : List (BitVec 8)) (s : S8) : Nat → S8
  | 0 => s
  | k + 1 => (rounds b s k).round (shK.getD k 0) ((wl b 64).getD k 0)
def S8.add (s t : S8) : S8 := ⟨s.a + t.a, s.b + t.b, s.c + t.c, s.d + t.d, s.e + t.e, s.f + t.f, s.g + t.g, s.h + t.h⟩
def comp (s : S8) (b : List (BitVec 8)) : S8 := s.add (rounds b s 64)
/-- The state with the first k words added. -/
def addK (s t : List (BitVec 32)) : Nat → List (BitVec 32)
  | 0 => s
  | k + 1 => (addK s t k).set k (s.getD k 0 + t.getD k 0)
theorem addK_length (s t : List (BitVec 32)) (k : Nat) : (addK s t k).length = s.length := by induction k <;> simp [addK, *]
theorem addK_getD (s t : List (BitVec 32)) (k j : Nat) (h : k ≤ j) : (addK s t k).getD j 0 = s.getD j 0 := by
  induction k with
  | zero => rfl
  | succ k ih =>
    have : k ≠ j := by omega
    simp only [addK, List.getD_eq_getElem?_getD, List.getElem?_set_ne this]
    have := ih (by omega)
    simpa only [List.getD_eq_getElem?_getD] using this
theorem addK_all (s t : S8) : addK s.l t.l 8 = (s.add t).l := rfl
/-- n blocks. -/
def runs : Nat → S8 → List (BitVec 8) → S8
  | 0, s, _ => s
  | n + 1, s, b => runs n (comp s b) (b.drop 64)
theorem be32_take (b : List (BitVec 8)) (i : Nat) (h : i < 16) : be32 (b.take 64) i = be32 b i := by
  have e : ∀ j, j < 64 → (b.take 64).getD j 0 = b.getD j 0 := fun j hj => by simp [List.getD, hj]
  unfold be32
  rw [e _ (by omega), e _ (by omega), e _ (by omega), e _ (by omega)]
theorem wl_take (b : List (BitVec 8)) (k : Nat) : wl (b.take 64) k = wl b k := by
  induction k with
  | zero => rfl
  | succ k ih =>
    unfold wl
    rw [ih]
    by_cases h : k < 16
    · rw [if_pos h, if_pos h, be32_take b k h]
    · rw [if_neg h, if_neg h]
theorem rounds_take (b : List (BitVec 8)) (s : S8) (k : Nat) : rounds (b.take 64) s k = rounds b s k := by
  induction k with
  | zero => rfl
  | succ k ih => unfold rounds; rw [ih, wl_take]
theorem comp_take (s : S8) (b : List (BitVec 8)) : comp s (b.take 64) = comp s b := by unfold comp; rw [rounds_take]
theorem comp_app (s : S8) (b c : List (BitVec 8)) (h : 64 ≤ b.length) : comp s (b ++ c) = comp s b := by
  rw [← comp_take s (b ++ c), ← comp_take s b, List.take_append_of_le_length h]
theorem runs_app (n : Nat) : ∀ (s : S8) (b c : List (BitVec 8)), 64 * n ≤ b.length → runs n s (b ++ c) = runs n s b := by
  induction n with
  | zero => intros; rfl
  | succ n ih =>
    intro s b c h
    unfold runs
    rw [comp_app s b c (by omega), List.drop_append_of_le_length (by omega)]
    exact ih _ _ _ (by rw [List.length_drop]; omega)
theorem runs_add (n m : Nat) : ∀ (s : S8) (b : List (BitVec 8)), runs (n + m) s b = runs m (runs n s b) (b.drop (64 * n)) := by
  induction n with
  | zero => intro s b; simp [runs]
  | succ n ih =>
    intro s b
    rw [show n + 1 + m = (n + m) + 1 by omega]
    show runs (n + m) (comp s b) (b.drop 64) = runs m (runs n (comp s b) (b.drop 64)) (b.drop (64 * (n + 1)))
    rw [ih, List.drop_drop, show 64 + 64 * n = 64 * (n + 1) by omega]
/-- All whole blocks of bytes. -/
def shaSt (m : List (BitVec 8)) : S8 := runs (m.length / 64) shH m
/-- What is behind the whole blocks. -/
def shaTl (m : List (BitVec 8)) : List (BitVec 8) := m.drop (64 * (m.length / 64))
theorem shaTl_length (m : List (BitVec 8)) : (shaTl m).length = m.length % 64 := by unfold shaTl; rw [List.length_drop]; omega
theorem sha_nil : shaSt [] = shH ∧ shaTl [] = [] := ⟨rfl, rfl⟩
/-- More bytes, no whole block. -/
theorem sha_less (m b : List (BitVec 8)) (h : m.length % 64 + b.length < 64) : shaSt (m ++ b) = shaSt m ∧ shaTl (m ++ b) = shaTl m ++ b := by
  have e : (m ++ b).length / 64 = m.length / 64 := by rw [List.length_append]; omega
  unfold shaSt shaTl
  rw [e]
  exact ⟨runs_app _ _ _ _ (by omega), List.drop_append_of_le_length (by omega)⟩
/-- Bytes that fill a block up. -/
theorem sha_fill (m b : List (BitVec 8)) (h : m.length % 64 + b.length = 64) : shaSt (m ++ b) = comp (shaSt m) (shaTl m ++ b) ∧ shaTl (m ++ b) = [] := by
  have e : (m ++ b).length / 64 = m.length / 64 + 1 := by rw [List.length_append]; omega
  have e2 : (m ++ b).drop (64 * (m.length / 64)) = shaTl m ++ b := List.drop_append_of_le_length (by omega)
  refine ⟨?_, ?_⟩
  · show runs ((m ++ b).length / 64) shH (m ++ b) = comp (runs (m.length / 64) shH m) (shaTl m ++ b)
    rw [e, runs_add, e2, runs_app (m.length / 64) shH m b (by omega)]
    rfl
  · apply List.eq_nil_of_length_eq_zero
    rw [shaTl_length, List.length_append]
    omega
/-- A whole block behind whole blocks. -/
theorem sha_block (m b : List (BitVec 8)) (h : m.length % 64 = 0) (hb : b.length = 64) : shaSt (m ++ b) = comp (shaSt m) b ∧ shaTl (m ++ b) = [] := by
  have ht : shaTl m = [] := List.eq_nil_of_length_eq_zero (by rw [shaTl_length]; exact h)
  have := sha_fill m b (by omega)
  rwa [ht, List.nil_append] at this
theorem shaTl_whole (m : List (BitVec 8)) (h : m.length % 64 = 0) : shaTl m = [] := List.eq_nil_of_length_eq_zero (by rw [shaTl_length]; exact h)
/-- The eight bytes of a number, the highest first. -/
def be64 (x : BitVec 64) : Nat → List (BitVec 8)
  | 0 => []
  | k + 1 => (x >>> (8 * k)).setWidth 8 :: be64 x k
theorem be64_length (x : BitVec 64) (k : Nat) : (be64 x k).length = k := by induction k <;> simp [be64, *]
/-- The filling of n bytes. -/
def padZ (n : Nat) : Nat := (63 - (n + 8) % 64)
def shaPad (n : Nat) : List (BitVec 8) := [(0x80 : BitVec 8)] ++ List.replicate (padZ n) (0 : BitVec 8) ++ be64 (BitVec.ofNat 64 n <<< 3) 8
theorem shaPad_length (n : Nat) : (shaPad n).length = 64 - (n + 8) % 64 + 8 := by simp [shaPad, be64_length, padZ]; omega
theorem shaPad_whole (n : Nat) : (n + (shaPad n).length) % 64 = 0 := by rw [shaPad_length]; omega
/-- A word's bytes, the highest first. -/
def be8 (x : BitVec 32) : List (BitVec 8) := [(x >>> 24).setWidth 8, (x >>> 16).setWidth 8, (x >>> 8).setWidth 8, x.setWidth 8]
def outW (l : List (BitVec 32)) : List (BitVec 8) := (l.map be8).flatten
theorem outW_length (l : List (BitVec 32)) : (outW l).length = 4 * l.length := by
  induction l with
  | nil => rfl
  | cons x l ih => simp [outW, be8] at ih ⊢; omega
/-- THE HASH. -/
def sha (m : List (BitVec 8)) : List (BitVec 8) := outW (shaSt (m ++ shaPad m.length)).l
theorem sha_length (m : List (BitVec 8)) : (sha m).length = 32 := by unfold sha; rw [outW_length]; rfl
/-- The array of the hash's bytes when k words of it are there. -/
def outA (l : List (BitVec 32)) (k : Nat) : List (BitVec 8) := outW (l.take k) ++ List.replicate (32 - 4 * k) 0
theorem outA_zero (l : List (BitVec 32)) : outA l 0 = List.replicate 32 0 := rfl
theorem outA_all (l : List (BitVec 32)) (h : l.length = 8) : outA l 8 = outW l := by simp [outA, List.take_of_length_le (Nat.le_of_eq h)]
theorem outA_length (l : List (BitVec 32)) (h : l.length = 8) (k : Nat) (hk : k ≤ 8) : (outA l k).length = 32 := by
  simp only [outA, List.length_append, outW_length, List.length_take, List.length_replicate]; omega
theorem outA_succ (l : List (BitVec 32)) (h : l.length = 8) (k : Nat) (hk : k < 8) :
    ((((outA l k).set (4 * k) ((l.getD k 0 >>> 24).setWidth 8)).set (4 * k + 1) ((l.getD k 0 >>> 16).setWidth 8)).set (4 * k + 2) ((l.getD k 0 >>> 8).setWidth 8)).set (4 * k + 3) ((l.getD k 0).setWidth 8) = outA l (k + 1) := by
  have e1 : (outW (l.take k)).length = 4 * k := by rw [outW_length, List.length_take]; omega
  have e2 : l.take (k + 1) = l.take k ++ [l.getD k 0] := by
    rw [List.take_succ_eq_append_getElem (by omega)]
    simp [List.getD, List.getElem?_eq_getElem (show k < l.length by omega)]
  have e3 : List.replicate (32 - 4 * k) (0 : BitVec 8) = [0, 0, 0, 0] ++ List.replicate (32 - 4 * (k + 1)) 0 := by
    rw [show 32 - 4 * k = (32 - 4 * (k + 1)) + 1 + 1 + 1 + 1 by omega]
    rfl
  have e4 : outW (l.take (k + 1)) = outW (l.take k) ++ be8 (l.getD k 0) := by rw [e2]; simp [outW]
  have st : ∀ (A : List (BitVec 8)) (i : Nat) (B : List (BitVec 8)) (x : BitVec 8), i < 4 → A.length = 4 * k → (A ++ B).set (4 * k + i) x = A ++ B.set i x := fun A i B x _ hA => by
    rw [List.set_append_right _ _ (by omega), hA, Nat.add_sub_cancel_left]
  unfold outA
  rw [e3, e4]
  rw [show (4 * k) = 4 * k + 0 from rfl, st _ 0 _ _ (by omega) e1, Nat.add_zero, st _ 1 _ _ (by omega) e1, st _ 2 _ _ (by omega) e1, st _ 3 _ _ (by omega) e1, List.append_assoc]
  rfl
end Go.Proofs.Ytfamcgmgcchppaa
