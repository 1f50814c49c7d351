/- bytes.Equal, and strings of bytes. -/
import Derived.Test.YtjghhbollgggoaaArgV0
import Derived.Laws.BytesArg
namespace Go.Proofs.Ytjghhbollgggoaa
open Go.RowKit
/-- The string of bytes. -/
def strB (l : List (BitVec 8)) : ByteArray := ⟨(l.map UInt8.ofBitVec).toArray⟩
theorem strB_size (l : List (BitVec 8)) : (strB l).size = l.length := by simp [strB, ByteArray.size]
theorem strB_nums (l : List (BitVec 8)) : strOfNums (l.map wb) = strB l := by
  unfold strOfNums strB
  congr 2
  rw [List.map_map]
  apply List.map_congr_left
  intro x _
  simp only [Function.comp, wb_toNat]
  apply UInt8.eq_of_toBitVec_eq
  simp
theorem strB_toList (l : List (BitVec 8)) : (strB l).data.toList = l.map UInt8.ofBitVec := by simp [strB]
theorem strB_inj {l m : List (BitVec 8)} (h : strB l = strB m) : l = m := by
  have h1 : l.map UInt8.ofBitVec = m.map UInt8.ofBitVec := by rw [← strB_toList, ← strB_toList, h]
  exact (List.map_inj_right (fun a b h => by simpa using h)).1 h1
theorem run_convert_rd {P : Program} (src e : TypeId) (hs : P.underlying src = some (.slice e)) (he : P.underlying e = some (.int .u8)) (dst : TypeId) (hd : P.underlying dst = some .string) (A : Option Addr) (l : List (BitVec 8)) (cap : Nat) (w : World) (hR : Rd w .u8 A l) :
    (convert src dst (.slice A l.length cap)).run P w = .ok (.string (strB l)) w := by
  cases l with
  | nil =>
    cases A with
    | none => exact run_convert_bytes_nil w src e hs he 0 cap dst hd
    | some a =>
      rw [run_convert_bytes_string w src dst e _ _ cap hs he hd, run_bytesToString w _ _ cap [] (by simp [loadCells, loadCellsFrom])]
      simp
      rfl
  | cons x l =>
    obtain ⟨g, off, rfl, _⟩ := hR 0 (by simp)
    rw [← strB_nums]
    refine run_convert_bytes_arg w src e hs he g off _ cap _ (by simp) (fun i hi => ?_) dst hd
    obtain ⟨g', off', h1, h2⟩ := hR i (by simpa using hi)
    cases h1
    rw [h2]
    have hi' : i < (x :: l).length := by simpa using hi
    congr 2
    generalize x :: l = r at *
    simp [List.getD, List.getElem?_eq_getElem hi']
theorem strB_beq (l m : List (BitVec 8)) : ((strB l).toList == (strB m).toList) = (l == m) := by
  rw [ByteArray.toList_eq, ByteArray.toList_eq, strB_toList, strB_toList]
  rw [Bool.eq_iff_iff]
  simp only [beq_iff_eq]
  exact List.map_inj_right (fun a b h => by simpa using h)
attribute [local go_sem] strB_beq
/-- bytes.Equal. -/
theorem bytesEqual_any (l m : List (BitVec 8)) (A A' : Option Addr) (c c' : Nat) (w : World) (hl : Rd w .u8 A l) (hm : Rd w .u8 A' m) :
    Calls Try.prog 28 #[.slice A l.length c, .slice A' m.length c'] w fun e w' => e = .returned (.bool (l == m)) ∧ w = w' := by
  have k1 := run_convert_rd (P := Try.prog) 46 5 Try.underlying46 Try.underlying5 9 Try.underlying9 A l c w hl
  have k2 := run_convert_rd (P := Try.prog) 46 5 Try.underlying46 Try.underlying5 9 Try.underlying9 A' m c' w hm
  generalize hL : l.length = L at *
  generalize hM : m.length = M at *
  clear hL hM
  go_enter Try.func28, Try.ntmps28
  go_wp2
  go_ret
  exact ⟨rfl, rfl⟩
theorem bytesEqual_v {w : World} {u v : Value} {l m : List (BitVec 8)} (hl : Arg w u l) (hm : Arg w v m) :
    Calls Try.prog 28 #[u, v] w fun e w' => e = .returned (.bool (l == m)) ∧ w = w' := by
  obtain ⟨A, c, rfl, _, hr⟩ := hl
  obtain ⟨A', c', rfl, _, hr'⟩ := hm
  exact bytesEqual_any l m A A' c c' w hr hr'
end Go.Proofs.Ytjghhbollgggoaa
