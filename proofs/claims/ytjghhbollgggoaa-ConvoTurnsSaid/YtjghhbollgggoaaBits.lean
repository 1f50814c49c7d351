/- Words of fixed width as the walk's integers: 'wb x' is the integer of a bit vector; the walk's sums, shifts and bit operations on such integers are those of bit vectors. -/
import Derived.WalkKit
namespace Go.Proofs.Ytjghhbollgggoaa
open Go.RowKit

/-- The integer that a word of n bits stands for. -/
def wb {n : Nat} (x : BitVec n) : Int := (x.toNat : Int)

theorem wb_nonneg {n : Nat} (x : BitVec n) : 0 ≤ wb x := Int.natCast_nonneg _
theorem wb_lt {n : Nat} (x : BitVec n) : wb x < 2 ^ n := by
  unfold wb
  have := x.isLt
  have h : ((2 ^ n : Nat) : Int) = (2 : Int) ^ n := by push_cast; rfl
  rw [← h]
  omega
theorem wb_inj {n : Nat} {x y : BitVec n} : wb x = wb y ↔ x = y := by
  unfold wb
  constructor
  · intro h
    exact BitVec.eq_of_toNat_eq (by omega)
  · intro h
    rw [h]
theorem wb_toNat {n : Nat} (x : BitVec n) : (wb x).toNat = x.toNat := by simp [wb]
theorem wb_lt8 (x : BitVec 8) : wb x < 256 := by have := wb_lt x; simpa using this
theorem wb_lt16 (x : BitVec 16) : wb x < 65536 := by have := wb_lt x; simpa using this
theorem wb_lt32 (x : BitVec 32) : wb x < 4294967296 := by have := wb_lt x; simpa using this
theorem wb_lt64 (x : BitVec 64) : wb x < 18446744073709551616 := by have := wb_lt x; simpa using this

/-- The width of an unsigned kind. -/
def IsU (k : IntKind) (n : Nat) : Prop := k.bits = n ∧ k.signed = false
theorem isU8 : IsU .u8 8 := ⟨rfl, rfl⟩
theorem isU16 : IsU .u16 16 := ⟨rfl, rfl⟩
theorem isU32 : IsU .u32 32 := ⟨rfl, rfl⟩
theorem isU64 : IsU .u64 64 := ⟨rfl, rfl⟩

theorem wrap_isU {k : IntKind} {n : Nat} (h : IsU k n) (i : Int) : k.wrap i = i % (2 ^ n : Int) := by
  obtain ⟨h1, h2⟩ := h
  unfold IntKind.wrap
  rw [h1, h2]
  simp

theorem wrap_nat {k : IntKind} {n : Nat} (h : IsU k n) (a : Nat) : k.wrap (a : Int) = wb (BitVec.ofNat n a) := by
  rw [wrap_isU h]
  unfold wb
  rw [BitVec.toNat_ofNat]
  push_cast
  rfl

theorem wrap_wb {k : IntKind} {n m : Nat} (h : IsU k n) (x : BitVec m) : k.wrap (wb x) = wb (x.setWidth n) := by
  unfold wb
  rw [wrap_nat h]
  unfold wb
  rw [BitVec.toNat_ofNat, BitVec.toNat_setWidth]
theorem wrap_add {k : IntKind} {n : Nat} (h : IsU k n) (x y : BitVec n) : k.wrap (wb x + wb y) = wb (x + y) := by
  unfold wb
  rw [← Int.natCast_add, wrap_nat h]
  unfold wb
  rw [BitVec.toNat_add, BitVec.toNat_ofNat]
theorem wrap_mul {k : IntKind} {n : Nat} (h : IsU k n) (x y : BitVec n) : k.wrap (wb x * wb y) = wb (x * y) := by
  unfold wb
  rw [← Int.natCast_mul, wrap_nat h]
  unfold wb
  rw [BitVec.toNat_mul, BitVec.toNat_ofNat]
theorem wrap_sub {k : IntKind} {n : Nat} (h : IsU k n) (x y : BitVec n) : k.wrap (wb x - wb y) = wb (x - y) := by
  rw [wrap_isU h]
  unfold wb
  rw [BitVec.toNat_sub]
  have h1 := x.isLt
  have h2 := y.isLt
  have e : (2 : Int) ^ n = ((2 ^ n : Nat) : Int) := by push_cast; rfl
  rw [e]
  rw [show ((x.toNat : Int) - (y.toNat : Int)) = ((2 ^ n - y.toNat + x.toNat : Nat) : Int) - ((2 ^ n : Nat) : Int) by omega]
  rw [Int.sub_emod_right]
  rfl
theorem wrap_shl {k : IntKind} {n : Nat} (h : IsU k n) (x : BitVec n) (i : Nat) : k.wrap (wb x * 2 ^ i) = wb (x <<< i) := by
  unfold wb
  rw [show ((x.toNat : Int) * 2 ^ i) = ((x.toNat * 2 ^ i : Nat) : Int) by push_cast; rfl, wrap_nat h]
  unfold wb
  rw [BitVec.toNat_shiftLeft, BitVec.toNat_ofNat, Nat.shiftLeft_eq]
theorem wb_shr {n : Nat} (x : BitVec n) (i : Nat) : wb x / 2 ^ i = wb (x >>> i) := by
  unfold wb
  rw [show ((2 : Int) ^ i) = ((2 ^ i : Nat) : Int) by push_cast; rfl, ← Int.natCast_ediv, BitVec.toNat_ushiftRight, Nat.shiftRight_eq_div_pow]

theorem bv_of_wb {n : Nat} (x : BitVec n) : BitVec.ofInt n (wb x) = x := by
  unfold wb
  rw [BitVec.ofInt_natCast]
  simp
theorem wb_of_int {n : Nat} {i : Int} (h0 : 0 ≤ i) (h1 : i < 2 ^ n) : wb (BitVec.ofInt n i) = i := by
  obtain ⟨a, rfl⟩ := Int.eq_ofNat_of_zero_le h0
  rw [BitVec.ofInt_natCast]
  unfold wb
  rw [BitVec.toNat_ofNat, Nat.mod_eq_of_lt]
  have : ((2 ^ n : Nat) : Int) = (2 : Int) ^ n := by push_cast; rfl
  omega
theorem bits_xor_u8 (x y : BitVec 8) : bits .xor .u8 (wb x) (wb y) = wb (x ^^^ y) := by
  show IntKind.u8.wrap ((BitVec.ofInt 8 (wb x) ^^^ BitVec.ofInt 8 (wb y)).toNat : Int) = _
  rw [bv_of_wb, bv_of_wb]
  exact (wrap_wb isU8 (x ^^^ y)).trans (by rw [BitVec.setWidth_eq])
theorem bits_and_u8 (x y : BitVec 8) : bits .and .u8 (wb x) (wb y) = wb (x &&& y) := by
  show IntKind.u8.wrap ((BitVec.ofInt 8 (wb x) &&& BitVec.ofInt 8 (wb y)).toNat : Int) = _
  rw [bv_of_wb, bv_of_wb]
  exact (wrap_wb isU8 (x &&& y)).trans (by rw [BitVec.setWidth_eq])
theorem bits_or_u8 (x y : BitVec 8) : bits .or .u8 (wb x) (wb y) = wb (x ||| y) := by
  show IntKind.u8.wrap ((BitVec.ofInt 8 (wb x) ||| BitVec.ofInt 8 (wb y)).toNat : Int) = _
  rw [bv_of_wb, bv_of_wb]
  exact (wrap_wb isU8 (x ||| y)).trans (by rw [BitVec.setWidth_eq])
theorem bits_xor_u16 (x y : BitVec 16) : bits .xor .u16 (wb x) (wb y) = wb (x ^^^ y) := by
  show IntKind.u16.wrap ((BitVec.ofInt 16 (wb x) ^^^ BitVec.ofInt 16 (wb y)).toNat : Int) = _
  rw [bv_of_wb, bv_of_wb]
  exact (wrap_wb isU16 (x ^^^ y)).trans (by rw [BitVec.setWidth_eq])
theorem bits_and_u16 (x y : BitVec 16) : bits .and .u16 (wb x) (wb y) = wb (x &&& y) := by
  show IntKind.u16.wrap ((BitVec.ofInt 16 (wb x) &&& BitVec.ofInt 16 (wb y)).toNat : Int) = _
  rw [bv_of_wb, bv_of_wb]
  exact (wrap_wb isU16 (x &&& y)).trans (by rw [BitVec.setWidth_eq])
theorem bits_or_u16 (x y : BitVec 16) : bits .or .u16 (wb x) (wb y) = wb (x ||| y) := by
  show IntKind.u16.wrap ((BitVec.ofInt 16 (wb x) ||| BitVec.ofInt 16 (wb y)).toNat : Int) = _
  rw [bv_of_wb, bv_of_wb]
  exact (wrap_wb isU16 (x ||| y)).trans (by rw [BitVec.setWidth_eq])
theorem bits_xor_u32 (x y : BitVec 32) : bits .xor .u32 (wb x) (wb y) = wb (x ^^^ y) := by
  show IntKind.u32.wrap ((BitVec.ofInt 32 (wb x) ^^^ BitVec.ofInt 32 (wb y)).toNat : Int) = _
  rw [bv_of_wb, bv_of_wb]
  exact (wrap_wb isU32 (x ^^^ y)).trans (by rw [BitVec.setWidth_eq])
theorem bits_and_u32 (x y : BitVec 32) : bits .and .u32 (wb x) (wb y) = wb (x &&& y) := by
  show IntKind.u32.wrap ((BitVec.ofInt 32 (wb x) &&& BitVec.ofInt 32 (wb y)).toNat : Int) = _
  rw [bv_of_wb, bv_of_wb]
  exact (wrap_wb isU32 (x &&& y)).trans (by rw [BitVec.setWidth_eq])
theorem bits_or_u32 (x y : BitVec 32) : bits .or .u32 (wb x) (wb y) = wb (x ||| y) := by
  show IntKind.u32.wrap ((BitVec.ofInt 32 (wb x) ||| BitVec.ofInt 32 (wb y)).toNat : Int) = _
  rw [bv_of_wb, bv_of_wb]
  exact (wrap_wb isU32 (x ||| y)).trans (by rw [BitVec.setWidth_eq])
theorem bits_xor_u64 (x y : BitVec 64) : bits .xor .u64 (wb x) (wb y) = wb (x ^^^ y) := by
  show IntKind.u64.wrap ((BitVec.ofInt 64 (wb x) ^^^ BitVec.ofInt 64 (wb y)).toNat : Int) = _
  rw [bv_of_wb, bv_of_wb]
  exact (wrap_wb isU64 (x ^^^ y)).trans (by rw [BitVec.setWidth_eq])
theorem bits_and_u64 (x y : BitVec 64) : bits .and .u64 (wb x) (wb y) = wb (x &&& y) := by
  show IntKind.u64.wrap ((BitVec.ofInt 64 (wb x) &&& BitVec.ofInt 64 (wb y)).toNat : Int) = _
  rw [bv_of_wb, bv_of_wb]
  exact (wrap_wb isU64 (x &&& y)).trans (by rw [BitVec.setWidth_eq])
theorem bits_or_u64 (x y : BitVec 64) : bits .or .u64 (wb x) (wb y) = wb (x ||| y) := by
  show IntKind.u64.wrap ((BitVec.ofInt 64 (wb x) ||| BitVec.ofInt 64 (wb y)).toNat : Int) = _
  rw [bv_of_wb, bv_of_wb]
  exact (wrap_wb isU64 (x ||| y)).trans (by rw [BitVec.setWidth_eq])

/-! The walk's own forms: what an operation leaves, as a word again -/
theorem add_u8 (x y : BitVec 8) : IntKind.u8.wrap (wb x + wb y) = wb (x + y) := wrap_add isU8 x y
theorem sub_u8 (x y : BitVec 8) : IntKind.u8.wrap (wb x - wb y) = wb (x - y) := wrap_sub isU8 x y
theorem conv_u8 {m : Nat} (x : BitVec m) : IntKind.u8.wrap (wb x) = wb (x.setWidth 8) := wrap_wb isU8 x
theorem shl_u8 (x : BitVec 8) (i : Nat) : IntKind.u8.wrap (wb x * 2 ^ i) = wb (x <<< i) := wrap_shl isU8 x i
theorem add_u16 (x y : BitVec 16) : IntKind.u16.wrap (wb x + wb y) = wb (x + y) := wrap_add isU16 x y
theorem sub_u16 (x y : BitVec 16) : IntKind.u16.wrap (wb x - wb y) = wb (x - y) := wrap_sub isU16 x y
theorem conv_u16 {m : Nat} (x : BitVec m) : IntKind.u16.wrap (wb x) = wb (x.setWidth 16) := wrap_wb isU16 x
theorem shl_u16 (x : BitVec 16) (i : Nat) : IntKind.u16.wrap (wb x * 2 ^ i) = wb (x <<< i) := wrap_shl isU16 x i
theorem add_u32 (x y : BitVec 32) : IntKind.u32.wrap (wb x + wb y) = wb (x + y) := wrap_add isU32 x y
theorem sub_u32 (x y : BitVec 32) : IntKind.u32.wrap (wb x - wb y) = wb (x - y) := wrap_sub isU32 x y
theorem conv_u32 {m : Nat} (x : BitVec m) : IntKind.u32.wrap (wb x) = wb (x.setWidth 32) := wrap_wb isU32 x
theorem shl_u32 (x : BitVec 32) (i : Nat) : IntKind.u32.wrap (wb x * 2 ^ i) = wb (x <<< i) := wrap_shl isU32 x i
theorem add_u64 (x y : BitVec 64) : IntKind.u64.wrap (wb x + wb y) = wb (x + y) := wrap_add isU64 x y
theorem sub_u64 (x y : BitVec 64) : IntKind.u64.wrap (wb x - wb y) = wb (x - y) := wrap_sub isU64 x y
theorem conv_u64 {m : Nat} (x : BitVec m) : IntKind.u64.wrap (wb x) = wb (x.setWidth 64) := wrap_wb isU64 x
theorem shl_u64 (x : BitVec 64) (i : Nat) : IntKind.u64.wrap (wb x * 2 ^ i) = wb (x <<< i) := wrap_shl isU64 x i
end Go.Proofs.Ytjghhbollgggoaa
