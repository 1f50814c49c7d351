/- The law's helpers room and cut. -/
import Derived.Test.YtjnbgoiaocpcjaaApp
import Derived.Test.YtjnbgoiaocpcjaaBEq
namespace Go.Proofs.Ytjnbgoiaocpcjaa
open Go.RowKit
theorem cut_v {w : World} {v : Value} {l : List (BitVec 8)} (h : Arg w v l) :
    Calls Try.prog 14 #[v] w fun e w' => ∃ u, e = .returned u ∧ Arg w u (l.take 1000) ∧ w = w' := by
  obtain ⟨A, cap, rfl, hc, hr⟩ := h
  have r1 : Rd w .u8 A (l.take 1000) := by
    have := rd_cut hr 0 1000 cap hc
    rwa [cutA_zero, List.drop_zero] at this
  have ha1 : Hid (1000 ≤ (l.length : Int) → Arg w (.slice A 1000 cap) (l.take 1000)) := fun h => arg_of' r1 (by rw [List.length_take]; omega) (by omega)
  have ha2 : Hid ((l.length : Int) ≤ 1000 → Arg w (.slice A l.length cap) (l.take 1000)) := fun h => arg_of' r1 (by rw [List.length_take]; omega) (by omega)
  have hs1 := fun wx => run_slice_to (P := Try.prog) bytesT A l.length cap (l.length : Int) .i64 (by omega) (by omega) wx
  have hs2 := fun (h : 1000 ≤ cap) wx => run_slice_to (P := Try.prog) bytesT A l.length cap 1000 .i64 (by omega) (by omega) wx
  rw [cutA_zero, Int.toNat_natCast] at hs1
  rw [cutA_zero] at hs2
  clear r1 hr
  generalize l.length = len at *
  go_enter Try.func14, Try.ntmps14
  go_wp2_with fail
  · have hh : 1000 ≤ (len : Int) := by omega
    go_ret
    exact ⟨_, rfl, ha1.out hh, rfl⟩
  · have hh : (len : Int) ≤ 1000 := by omega
    go_ret
    exact ⟨_, rfl, ha2.out hh, rfl⟩
set_option maxRecDepth 100000 in
set_option maxHeartbeats 1000000 in
theorem room_v {w : World} {v : Value} {l : List (BitVec 8)} (h : Arg w v l) (hlen : l.length ≤ 1000) :
    Calls Try.prog 22 #[v] w fun e w' => ∃ u, e = .returned u ∧ Arg w' u l ∧ Below w.heap.size w w' := by
  obtain ⟨A, cap, rfl, hc, hr⟩ := h
  have HA : Hid (Arg w (.slice A l.length cap) l) := ⟨A, cap, rfl, hc, hr⟩
  have HL : Hid (l.length = l.length) := rfl
  have hmk := fun wx => run_make_room (P := Try.prog) 38 5 .u8 8 1 Try.underlying38 bytesT.hi (l.length + 20) (by omega) (by omega) wx
  rw [Int.natCast_add, show ((20 : Nat) : Int) = 20 from rfl] at hmk
  have hfin : Hid (∀ w' A' cap', Rd w' .u8 A' (l ++ [7]) → l.length + 1 ≤ cap' → Arg w' (.slice A' l.length cap') l) := fun w' A' cap' h1 h2 => by
    refine ⟨A', cap', rfl, by omega, ?_⟩
    have := rd_cut h1 0 l.length cap' (by simpa using h2)
    rwa [cutA_zero, List.drop_zero, List.take_left] at this
  have hle : Hid ((l ++ [(7 : BitVec 8)]).length = l.length + 1) := by simp [Hid]
  obtain ⟨len, hl⟩ : ∃ len, len = l.length := ⟨_, rfl⟩
  rw [← hl] at hlen hmk hfin hle HA hc ⊢
  have HL := Lib.hid hl
  clear hl hr
  go_enter Try.func22, Try.ntmps22
  have hb0 : Below w.heap.size w (w.alloc (.cells (encs .u8 (List.replicate (len + 20) (0 : BitVec 8))) 5)) := (Below.refl _ _).alloc (Nat.le_refl _) _
  have h0 : OwnB (w.alloc (.cells (encs .u8 (List.replicate (len + 20) (0 : BitVec 8))) 5)) w.heap.size (.slice (some ⟨w.heap.size, 0, none⟩) 0 (len + 20)) [] := owns_made (Blk.new _ _ _) (Nat.le_refl _) (by simp) (by unfold maxLen; omega)
  go_wp2_with (first | (at_builtin; refine wpList_app rfl _ _ rfl w.heap.size _ _ rfl h0 _ _ rfl (HA.out.below hb0) (by rw [← HL.out]; simp; omega) (by simp) ?_; intro v1 w1 h1 hb1; clear h0; rw [List.nil_append] at h1; replace hb1 := hb0.trans hb1; clear hb0 hmk) | (at_builtin; refine wpList_app rfl _ _ rfl w.heap.size _ _ rfl (h1.below ((Below.refl _ _).alloc (Nat.le_refl _) _)) _ [7] rfl ⟨_, 1, rfl, Nat.le_refl _, (Blk.new _ _ _).rd⟩ (by rw [← HL.out]; simp; omega) (hb1.alloc hb1.size _).size ?_; intro v2 w2 h2 hb2; clear h1; replace hb2 := (hb1.alloc hb1.size (.cells #[.int .u8 7] 5)).trans hb2; clear hb1; obtain ⟨A2, c2, rfl, hc2, hr2⟩ := h2.arg; have hfi := Lib.hid (hfin.out _ A2 c2 hr2 (by rw [← hle.out]; exact hc2)); rw [hle.out] at hc2 ⊢; have hs1 := fun wx => run_slice_to (P := Try.prog) bytesT A2 (len + 1) c2 (len : Int) .i64 (by omega) (by omega) wx; rw [cutA_zero, Int.toNat_natCast] at hs1; clear h2 hr2) | fail)
  go_ret
  exact ⟨_, rfl, hfi.out, hb2⟩
end Go.Proofs.Ytjnbgoiaocpcjaa
