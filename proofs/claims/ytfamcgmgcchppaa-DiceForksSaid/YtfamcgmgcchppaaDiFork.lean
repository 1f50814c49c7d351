/- slices.Grow and slices.Concat of bytes; Fork. -/
import Derived.Test.YtfamcgmgcchppaaDiRefB
import Derived.Test.YtfamcgmgcchppaaAppW
import Derived.Lib.AppendZerosOnto
import Derived.Lib.AppendZeros
namespace Go.Proofs.Ytfamcgmgcchppaa
open Go.RowKit
set_option linter.unusedVariables false
set_option linter.unusedSimpArgs false
set_option maxRecDepth 100000 in
set_option maxHeartbeats 4000000 in
theorem grow_any (n : Nat) (w : World) (h0 : 0 < n) (hn : n ≤ 1048576) :
    Calls Try.prog 44 #[.slice none 0 0, .int .i64 n] w fun e w' => ∃ v, e = .returned v ∧ OwnB w' w.heap.size v [] ∧ Below w.heap.size w w' := by
  obtain ⟨i, hi, hz, hs, hb⟩ := info_parts bytesT.hi
  have hfit : Builtin.nextslicecap n 0 * i.bytes ≤ 281474976710656 := growslice_fits (by omega) (by rw [hb]; omega)
  have hold : (Builtin.firstCells i.size 0 (.slice none 0 0)).run Try.prog w.drew = .ok #[] w.drew := by rfl
  have hrz : ∀ ty, (Builtin.append_ #[22, 3] ty #[.slice none 0 0, .int .i64 n]).run Try.prog w =
      .ok (.slice (some ⟨w.heap.size, 0, none⟩) n (grownCap w n 0 5)) (w.drew.alloc (.cells (Builtin.zeroCells (Value.int .u8 0).cells n ++ Builtin.zeroCells (Value.int .u8 0).cells (grownCap w n 0 5 - n)) 5)) := fun ty => by
    have h := Lib.run_append_grow_zeros w 22 3 ty 5 i (.int .u8 0) .i64 .i64 bytesT.ht Try.underlying3 hi hz none 0 0 [] hold n h0 (by omega) (by omega) (by omega) (by rw [hb]; omega) (by simpa using hfit)
    simpa using h
  have hG1 : n ≤ grownCap w n 0 5 := grownCap_ge w _ _ _
  have hG2 : grownCap w n 0 5 ≤ maxLen := grownCap_le_maxLen w n 0 5 (by unfold maxLen; omega)
  obtain ⟨G, hG⟩ : ∃ G, G = grownCap w n 0 5 := ⟨_, rfl⟩
  rw [← hG] at hrz hG1 hG2
  have hi0 : (0 : Int) < (n : Int) := by omega
  have hG0 : (G : Int) ≤ 9223372036854775807 := by unfold maxLen at hG2; omega
  clear hold hfit hG
  go_enter Try.func44, Try.ntmps44
  go_wp2_with (first | (at_builtin; refine Lib.wpList_append_run _ rfl _ _ _ _ rfl _ _ rfl rfl _ _ (hrz _) ?_) | fail)
  go_ret
  refine ⟨_, rfl, ⟨rfl, .inr ⟨w.heap.size, G, _, rfl, Nat.le_refl _, (Blk.new w _ _).drew, Nat.zero_le _, hG2, ?_, by simp [encL]⟩⟩, ((Below.refl _ _).alloc (Nat.le_refl _) _).drew⟩
  rw [Array.size_append, size_zeroCells, size_zeroCells]
  show n * 1 + (G - n) * 1 = G * 1
  omega
set_option maxRecDepth 100000 in
set_option maxHeartbeats 4000000 in
theorem concat_any (l1 l2 : List (BitVec 8)) (v1 v2 : Value) (g : Nat) (w : World) (hB : Blk w g #[v1, v2] 22) (h1 : Arg w v1 l1) (h2 : Arg w v2 l2) (h0 : 0 < l1.length) (hb1 : l1.length ≤ 4096) (hb2 : l2.length ≤ 4096) :
    Calls Try.prog 31 #[.slice (some ⟨g, 0, none⟩) 2 2] w (RetOwn w 5 .u8 (l1 ++ l2)) := by
  obtain ⟨A1, c1, rfl, hc1, hR1⟩ := id h1
  obtain ⟨A2, c2, rfl, hc2, hR2⟩ := id h2
  obtain ⟨n1, hn1⟩ : ∃ n, n = l1.length := ⟨_, rfl⟩
  obtain ⟨n2, hn2⟩ : ∃ n, n = l2.length := ⟨_, rfl⟩
  rw [← hn1] at hc1 hb1 h0
  rw [← hn2] at hc2 hb2
  have e0 : w.cell? ⟨g, 0, none⟩ = some (.slice A1 n1 c1) := by rw [hn1]; exact hB.cell 0
  have e1 : w.cell? ⟨g, 1, none⟩ = some (.slice A2 n2 c2) := by rw [hn2]; exact hB.cell 1
  have HN1 := Lib.hid hn1
  have HN2 := Lib.hid hn2
  clear hB hn1 hn2
  go_enter Try.func31, Try.ntmps31
  go_wp2_with fail
  go_loopw [3, 11] (fun s i wr => wr = w ∧ ((i = .int .i64 0 ∧ s = .int .i64 0) ∨ (i = .int .i64 1 ∧ s = .int .i64 n1) ∨ (i = .int .i64 2 ∧ s = .int .i64 ((n1 + n2 : Nat) : Int)))) (fun _ i _ => 2 - (intOf i).toNat)
  case atStart => exact ⟨rfl, .inl ⟨rfl, rfl⟩⟩
  case round =>
    obtain ⟨hwr, h⟩ := hrel
    replace hwr := hwr.symm
    subst hwr
    rcases h with h | h | h
    · obtain ⟨rfl, rfl⟩ := h
      go_wp2_with fail
      go_roundw
      case rel =>
        first | exact ⟨trivial, .inr (.inl ⟨rfl, by simp⟩)⟩ | ((repeat apply Exists.intro); exact ⟨⟨trivial, .inr (.inl ⟨rfl, by simp⟩)⟩, rfl⟩)
      case measure => simp [intOf]
    · obtain ⟨rfl, rfl⟩ := h
      have hs : ((n1 + n2 : Nat) : Int) = (n1 : Int) + (n2 : Int) := by omega
      go_wp2_with fail
      go_roundw
      case rel =>
        first | exact ⟨trivial, .inr (.inr ⟨rfl, by simp⟩)⟩ | ((repeat apply Exists.intro); exact ⟨⟨trivial, .inr (.inr ⟨rfl, by simp⟩)⟩, rfl⟩)
      case measure => simp [intOf]
    · obtain ⟨rfl, rfl⟩ := h
      go_wp2_with fail
      refine (grow_any (n1 + n2) w (by omega) (by omega)).mono ?_
      rintro e w1 ⟨v, rfl, ho, hn⟩
      have E0 := Lib.hid e0
      have E1 := Lib.hid e1
      have HA1 := Lib.hid h1
      have HA2 := Lib.hid h2
      rw [← HN1.out] at HA1
      rw [← HN2.out] at HA2
      obtain ⟨oA, oc, rfl, -, -⟩ := id ho.arg
      clear e0 e1 h1 h2 hR1 hR2
      go_wp2_with fail
      go_loopw [6, 27] (fun vo i wr => Below w.heap.size w wr ∧ ((i = .int .i64 0 ∧ OwnB wr w.heap.size vo []) ∨ (i = .int .i64 1 ∧ OwnB wr w.heap.size vo l1) ∨ (i = .int .i64 2 ∧ OwnB wr w.heap.size vo (l1 ++ l2)))) (fun _ i _ => 2 - (intOf i).toNat)
      case atStart => exact ⟨hn, .inl ⟨rfl, ho⟩⟩
      case round =>
        clear ho hn
        obtain ⟨hn, h | h | h⟩ := hrel
        · obtain ⟨rfl, ho⟩ := h
          have c0 := below_cell hn E0.out
          have hA := HA1.out.below hn
          obtain ⟨oA, oc, rfl, -, -⟩ := id ho.arg
          have hsz := hn.size
          go_wp2_with (first | (at_builtin; refine wpList_appw rfl _ _ rfl w.heap.size _ _ rfl ho _ _ rfl hA (by have := HN1.out; simp; omega) hsz (fun v2 w2 ho2 hn2 => ?_); replace hn2 := hn.trans (hn2.mono (by omega)); clear c0 hA ho) | fail)
          go_roundw
          case rel =>
            first | exact ⟨hn2, .inr (.inl ⟨rfl, ho2⟩)⟩ | ((repeat apply Exists.intro); exact ⟨⟨hn2, .inr (.inl ⟨rfl, ho2⟩)⟩, rfl⟩)
          case measure => simp [intOf]
        · obtain ⟨rfl, ho⟩ := h
          have c0 := below_cell hn E1.out
          have hA := HA2.out.below hn
          obtain ⟨oA, oc, rfl, -, -⟩ := id ho.arg
          have hsz := hn.size
          rw [← HN1.out] at ho ⊢
          go_wp2_with (first | (at_builtin; refine wpList_appw rfl _ _ rfl w.heap.size _ _ rfl ho _ _ rfl hA (by have := HN1.out; have := HN2.out; omega) hsz (fun v2 w2 ho2 hn2 => ?_); replace hn2 := hn.trans (hn2.mono (by omega)); clear c0 hA ho) | fail)
          go_roundw
          case rel =>
            first | exact ⟨hn2, .inr (.inr ⟨rfl, ho2⟩)⟩ | ((repeat apply Exists.intro); exact ⟨⟨hn2, .inr (.inr ⟨rfl, ho2⟩)⟩, rfl⟩)
          case measure => simp [intOf]
        · obtain ⟨rfl, ho⟩ := h
          obtain ⟨oA, oc, rfl, -, -⟩ := id ho.arg
          go_wp2_with fail
          go_ret
          exact ⟨_, rfl, ho, hn⟩
def ForkD (w : World) (g : Nat) (key : List (BitVec 8)) (t : Nat) (label : List (BitVec 8)) (e : Ending) (w' : World) : Prop := ∃ h, e = .returned (.tuple #[.pointer (some ⟨h, 0, none⟩), .int .i64 0]) ∧ w.heap.size ≤ h ∧ DiceR w' h (sha (strm key t 32 ++ label)) 0 ∧ DiceR w' g key (t + 32) ∧ Upd g w w'
end Go.Proofs.Ytfamcgmgcchppaa
