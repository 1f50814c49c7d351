/- FrameAnnounces walked (printed by genannh.py, genann.py, genannall.py). -/
import Derived.Test.YtjnbgoiaocpcjaaFrPutA
import Derived.Test.YtjnbgoiaocpcjaaFrRefM
import Derived.Test.YtjnbgoiaocpcjaaArrEq
import Derived.Test.YtjnbgoiaocpcjaaMix3
import Derived.Test.YtjnbgoiaocpcjaaFrRefA
import Derived.Test.YtjnbgoiaocpcjaaRoomCut
import Derived.Test.YtjnbgoiaocpcjaaWakes
import Derived.Test.YtjnbgoiaocpcjaaBEq
namespace Go.Proofs.Ytjnbgoiaocpcjaa
open Go.RowKit
set_option linter.unusedVariables false
set_option linter.unusedSimpArgs false
theorem neq_key (s t : List (BitVec 8)) (hs : s.length = 32) (ht : t.length = 32) (w : World) : (binOp .neq 26 (.agg (encs .u8 s)) (.agg (encs .u8 t))).run Try.prog w = .ok (.bool (!(s == t))) w := by
  rw [run_neq_struct, show (10000 : Nat) = 9998 + 2 from rfl, run_equalIn_encs w 9998 _ 5 .u8 32 Try.underlying26 Try.underlying5 (by kernel_rfl) s t hs ht]
  rfl
theorem seg_step (l m : List (BitVec 8)) (k : Nat) (h : l.take (32 * k) = m.take (32 * k)) (hs : (l.drop (k * 32)).take 32 = (m.drop (k * 32)).take 32) : l.take (32 * (k + 1)) = m.take (32 * (k + 1)) := by
  rw [show 32 * (k + 1) = 32 * k + 32 by omega, List.take_add, List.take_add, h, Nat.mul_comm 32 k, hs]
/-- A row of keys, as a value. -/
def ArgsV (w : World) (v : Value) (ms : List (List (BitVec 8))) : Prop := ∃ A cap, v = .slice A ms.length cap ∧ Args w A ms
theorem ArgsV.below {w w' : World} {v : Value} {ms : List (List (BitVec 8))} (h : ArgsV w v ms) (hb : Below w.heap.size w w') : ArgsV w' v ms :=
  let ⟨A, cap, h1, h2⟩ := h
  ⟨A, cap, h1, h2.below hb⟩
theorem hops_any {w : World} {v1 v2 : Value} {n m : Nat} {l1 l2 : List (BitVec 8)} (h1 : ArgK w v1 n l1) (h2 : ArgK w v2 m l2) (hn : n ≤ 4398046511104) :
    Calls Try.prog 41 #[v1, v2] w fun e w' => e = .returned (.bool (decide (n = m) && (l1 == l2))) ∧ Below w.heap.size w w' := by
  obtain ⟨A1, c1, rfl, hc1, hR1, hl1⟩ := h1
  obtain ⟨A2, c2, rfl, hc2, hR2, hl2⟩ := h2
  have HR1 := Lib.hid hR1
  have HR2 := Lib.hid hR2
  have HL1 := Lib.hid hl1
  have HL2 := Lib.hid hl2
  clear hR1 hR2 hl1 hl2
  by_cases hnm : n = m
  · subst hnm
    rw [decide_eq_true rfl, Bool.true_and]
    go_enter Try.func41, Try.ntmps41
    go_wp2_with fail
    go_loopw [13] (fun vi wr => ∃ k : Nat, k ≤ n ∧ vi = .int .i64 k ∧ l1.take (32 * k) = l2.take (32 * k) ∧ Below w.heap.size w wr) (fun vi _ => n - (intOf vi).toNat)
    case atStart => exact ⟨0, Nat.zero_le _, rfl, by simp, Below.refl _ _⟩
    case round =>
      obtain ⟨k, hk, rfl, htk, hb⟩ := hrel
      have HTK := Lib.hid htk
      clear htk
      by_cases hlt : k < n
      · have i1 : (k : Int) < (n : Int) := by omega
        have hk0 : (0 : Int) ≤ (k : Int) := Int.natCast_nonneg _
        obtain ⟨g1, o1, rfl, -⟩ := HR1.out (32 * k) (by rw [HL1.out]; omega)
        obtain ⟨g2, o2, rfl, -⟩ := HR2.out (32 * k) (by rw [HL2.out]; omega)
        have HLT := Lib.hid hlt
        clear hlt
        obtain ⟨s1, hs1⟩ : ∃ x, x = (l1.drop (k * 32)).take 32 := ⟨_, rfl⟩
        obtain ⟨s2, hs2⟩ : ∃ x, x = (l2.drop (k * 32)).take 32 := ⟨_, rfl⟩
        have S1 : Hid (s1.length = 32) := by show _ = _; rw [hs1, List.length_take, List.length_drop, HL1.out]; have := HLT.out; omega
        have S2 : Hid (s2.length = 32) := by show _ = _; rw [hs2, List.length_take, List.length_drop, HL2.out]; have := HLT.out; omega
        have q1 := (rd_off HR1.out (k * 32) 32).below hb
        have q2 := (rd_off HR2.out (k * 32) 32).below hb
        rw [← hs1] at q1
        rw [← hs2] at q2
        have Q1 := Lib.hid q1
        have Q2 := Lib.hid q2
        have E1 := Lib.hid hs1
        have E2 := Lib.hid hs2
        have hne := neq_key s1 s2 S1.out S2.out
        have hk32 : k * 32 = 32 * k := Nat.mul_comm _ _
        clear q1 q2 hs1 hs2
        cases hq : (s1 == s2) with
        | false =>
          have HB2 := Lib.hid (show (l1 == l2) = false by
            rw [Bool.eq_false_iff]; intro hc
            have hc' : l1 = l2 := by simpa using hc
            have : s1 = s2 := by rw [E1.out, E2.out, hc']
            rw [this] at hq; simp at hq)
          rw [hq] at hne
          clear hq hk32
          have HB := Lib.hid hb
          clear hb
          go_wp2_with fail
          refine mix_start (fun w' => Below wr.heap.size wr w') (List.range 9) [] [3, 7] [] (by kernel_rfl) (by kernel_rfl) (fun d _ _ _ _ h => by cases d <;> exact h) (Below.refl _ _).drew ?_
          repeat (refine mix_pure rfl rfl (fun K hK => ?_); go_simp; refine hK _ ?_; clear hK K)
          refine mix_load_rd rfl rfl rfl rfl 26 _ rfl g1 (o1 + k * 32) rfl .u8 s1 (fun w' hS => Q1.out.below hS) _ Try.underlying26 rfl (by rw [S1.out]; exact sizeKey) ?_
          repeat (refine mix_pure rfl rfl (fun K hK => ?_); go_simp; refine hK _ ?_; clear hK K)
          refine mix_load_rd rfl rfl rfl rfl 26 _ rfl g2 (o2 + k * 32) rfl .u8 s2 (fun w' hS => Q2.out.below hS) _ Try.underlying26 rfl (by rw [S2.out]; exact sizeKey) ?_
          repeat (refine mix_pure rfl rfl (fun K hK => ?_); go_simp; refine hK _ ?_; clear hK K)
          refine mix_nil ?_
          go_wp2_with fail
          go_ret
          exact ⟨by rw [HB2.out]; rfl, HB.out.drew⟩
        | true =>
          have HS := Lib.hid (seg_step l1 l2 k HTK.out (by rw [← E1.out, ← E2.out]; simpa using hq))
          rw [hq] at hne
          clear hq hk32
          have HB := Lib.hid hb
          clear hb
          go_wp2_with fail
          refine mix_start (fun w' => Below wr.heap.size wr w') (List.range 9) [] [3, 7] [] (by kernel_rfl) (by kernel_rfl) (fun d _ _ _ _ h => by cases d <;> exact h) (Below.refl _ _).drew ?_
          repeat (refine mix_pure rfl rfl (fun K hK => ?_); go_simp; refine hK _ ?_; clear hK K)
          refine mix_load_rd rfl rfl rfl rfl 26 _ rfl g1 (o1 + k * 32) rfl .u8 s1 (fun w' hS => Q1.out.below hS) _ Try.underlying26 rfl (by rw [S1.out]; exact sizeKey) ?_
          repeat (refine mix_pure rfl rfl (fun K hK => ?_); go_simp; refine hK _ ?_; clear hK K)
          refine mix_load_rd rfl rfl rfl rfl 26 _ rfl g2 (o2 + k * 32) rfl .u8 s2 (fun w' hS => Q2.out.below hS) _ Try.underlying26 rfl (by rw [S2.out]; exact sizeKey) ?_
          repeat (refine mix_pure rfl rfl (fun K hK => ?_); go_simp; refine hK _ ?_; clear hK K)
          refine mix_nil ?_
          go_wp2_with fail
          go_roundw
          case rel =>
            first | exact ⟨k + 1, by have := HLT.out; omega, by go_num, HS.out, HB.out.drew⟩ | ((repeat apply Exists.intro); exact ⟨⟨k + 1, by have := HLT.out; omega, by go_num, HS.out, HB.out.drew⟩, rfl⟩)
          case measure => simp [intOf]; have := HLT.out; omega
      · obtain rfl : k = n := by omega
        have HB2 := Lib.hid (show (l1 == l2) = true by
          have := HTK.out
          rw [List.take_of_length_le (by rw [HL1.out]; exact Nat.le_refl _), List.take_of_length_le (by rw [HL2.out]; exact Nat.le_refl _)] at this
          simp [this])
        go_wp2_with fail
        go_ret
        exact ⟨by rw [HB2.out]; rfl, hb⟩
  · have hi : ¬ (n : Int) = (m : Int) := by omega
    rw [decide_eq_false hnm, Bool.false_and]
    clear hnm
    go_enter Try.func41, Try.ntmps41
    go_wp2_with fail
    go_ret
    exact ⟨rfl, Below.refl _ _⟩
theorem rright_any3 (r : BitVec 64) (A : Option Addr) (n cap : Nat) (w : World) : Calls Try.prog 42 #[.agg #[.int .u64 (wb r), .slice A n cap]] w fun e w' => e = .returned (.bool (rightA r n)) ∧ Below w.heap.size w w' := by
  have hA : rightA r n = (decide (0 < wb r) && decide (1 ≤ (n : Int)) && decide ((n : Int) ≤ 3)) := by unfold rightA; rw [show decide (0 < n) = decide (1 ≤ (n : Int)) from decide_eq_decide.2 (by omega), show decide (n ≤ 3) = decide ((n : Int) ≤ 3) from decide_eq_decide.2 (by omega)]
  rw [hA]
  clear hA
  by_cases h1 : 0 < wb r
  · by_cases h2 : 1 ≤ (n : Int)
    · by_cases h3 : (n : Int) ≤ 3
      · (go_enter Try.func42, Try.ntmps42; go_wp2_with fail; go_ret; exact ⟨by simp [h1, h2, h3], (Below.refl _ _).alloc (Nat.le_refl _) _⟩)
      · (go_enter Try.func42, Try.ntmps42; go_wp2_with fail; go_ret; exact ⟨by simp [h1, h2, h3], (Below.refl _ _).alloc (Nat.le_refl _) _⟩)
    · (go_enter Try.func42, Try.ntmps42; go_wp2_with fail; go_ret; exact ⟨by simp; omega, (Below.refl _ _).alloc (Nat.le_refl _) _⟩)
  · (go_enter Try.func42, Try.ntmps42; go_wp2_with fail; go_ret; exact ⟨by simp; omega, (Below.refl _ _).alloc (Nat.le_refl _) _⟩)
def sliceLen : Value → Nat
  | .slice _ n _ => n
  | _ => 0
set_option maxRecDepth 100000 in
set_option maxHeartbeats 8000000 in
theorem rannounce_any (R : BitVec 64) (n : Nat) (v : Value) (l : List (BitVec 8)) (w : World) (hk : ArgK w v n l) (hr : rightA R n = true) :
    Calls Try.prog 43 #[.agg #[.int .u64 (wb R), v]] w (RetOwn w 5 .u8 (annB R n l)) := by
  obtain ⟨A, cap, rfl, hcap, hR, hl⟩ := hk
  have hbox : Below w.heap.size w (w.alloc (.cells #[.int .u64 (wb R), .slice A n cap] 78)) := (Below.refl _ _).alloc (Nat.le_refl _) _
  have mb := Blk.new w #[.int .u64 (wb R), .slice A n cap] 78
  have hn3 : 1 ≤ n ∧ n ≤ 3 := by unfold rightA at hr; simp at hr; omega
  obtain ⟨g, off, rfl, -⟩ := hR 0 (by omega)
  have HR := Lib.hid hR
  have HL := Lib.hid hl
  have HN := Lib.hid hn3
  have hconv : IntKind.u8.wrap (n : Int) = wb (BitVec.ofNat 8 n) := wrap_nat isU8 _
  have hni : (n : Int) ≤ 3 := by omega
  obtain ⟨nb, hnb⟩ : ∃ x, x = BitVec.ofNat 8 n := ⟨_, rfl⟩
  obtain ⟨hd, hhd⟩ : ∃ x : List (BitVec 8), x = [1] ++ low R 8 ++ [nb] := ⟨_, rfl⟩
  have HAB : Hid (annB R n l = hd ++ l ++ List.replicate (96 - 32 * n) 0) := by show _ = _; rw [hhd, hnb]; rfl
  have HF : Hid ([1] ++ [low R 8, [nb]].flatten = hd) := by show _ = _; rw [hhd]; simp
  have HL0 : Hid (hd.length = 10) := by show _ = _; rw [hhd]; simp [low_length]
  rw [← hnb] at hconv
  clear hr hR hl hn3 hnb hhd
  go_enter Try.func43, Try.ntmps43
  go_wp2_with fail
  refine M3.mix_plan (fun w' => Blk w' w.heap.size #[.int .u64 (wb R), .slice (some ⟨g, off, none⟩) n cap] 78) (.step 1 (.step 2 (.step 4 (.step 5 (.step 6 (.step 7 (.fork3 0 3 8 (.fork 3 8 (.step 8 (.step 9 (.step 10 (.step 11 (.done))))) (.step 3 (.step 9 (.step 10 (.step 11 (.done)))))) (.fork 0 8 (.step 8 (.step 9 (.step 10 (.step 11 (.done))))) (.fork 0 9 (.step 9 (.step 10 (.step 11 (.done)))) (.step 0 (.step 10 (.step 11 (.done)))))) (.fork 0 3 (.step 3 (.step 9 (.step 10 (.step 11 (.done))))) (.fork 0 9 (.step 9 (.step 10 (.step 11 (.done)))) (.step 0 (.step 10 (.step 11 (.done))))))))))))) [0, 3, 8, 9, 10] [2, 5] [] (by kernel_rfl) (by kernel_rfl) (fun d _ _ _ _ h => by cases d <;> exact h) mb.drew ?_
  replace mb := mb.drew
  have hb := hbox.drew
  clear hbox
  generalize (w.alloc (.cells #[.int .u64 (wb R), .slice (some ⟨g, off, none⟩) n cap] 78)).drew = x0 at *
  repeat (refine M3.mix_pure rfl rfl (fun K hK => ?_); go_simp; refine hK _ ?_; clear hK K)
  refine M3.mix_read (.int .u64 (wb R)) rfl rfl rfl rfl (fun w' hS => ?_) ?_
  · have k5 : w'.cell? ⟨w.heap.size, 0, none⟩ = some (.int .u64 (wb R)) := hS.cell 0
    go_simp
  repeat (refine M3.mix_pure rfl rfl (fun K hK => ?_); go_simp; refine hK _ ?_; clear hK K)
  refine M3.mix_read (.slice (some ⟨g, off, none⟩) n cap) rfl rfl rfl rfl (fun w' hS => ?_) ?_
  · have k5 : w'.cell? ⟨w.heap.size, 1, none⟩ = some (.slice (some ⟨g, off, none⟩) n cap) := hS.cell 1
    go_simp
  repeat (refine M3.mix_pure rfl rfl (fun K hK => ?_); go_simp; refine hK _ ?_; clear hK K)
  apply share4 (A := fun v0 v3 v8 v9 wx => Below w.heap.size w wx ∧ Blk wx w.heap.size #[.int .u64 (wb R), .slice (some ⟨g, off, none⟩) n cap] 78 ∧ Arg wx v0 [1] ∧ ArgsV wx v9 [low R 8, [nb]])
  · intro hS0_3_8_9
    apply share3 (A := fun v0 v3 v8 wx => Below w.heap.size w wx ∧ Blk wx w.heap.size #[.int .u64 (wb R), .slice (some ⟨g, off, none⟩) n cap] 78 ∧ Arg wx v0 [1] ∧ Arg wx v3 (low R 8) ∧ Arg wx v8 [nb])
    · intro hS0_3_8
      apply share2 (A := fun v0 v3 wx => Below w.heap.size w wx ∧ Blk wx w.heap.size #[.int .u64 (wb R), .slice (some ⟨g, off, none⟩) n cap] 78 ∧ Arg wx v0 [1] ∧ Arg wx v3 (low R 8))
      · intro hS0_3
        apply share2 (A := fun v0 v8 wx => Below w.heap.size w wx ∧ Blk wx w.heap.size #[.int .u64 (wb R), .slice (some ⟨g, off, none⟩) n cap] 78 ∧ Arg wx v0 [1] ∧ Arg wx v8 [nb])
        · intro hS0_8
          apply share2 (A := fun v3 v8 wx => Below w.heap.size w wx ∧ Blk wx w.heap.size #[.int .u64 (wb R), .slice (some ⟨g, off, none⟩) n cap] 78 ∧ Arg wx v3 (low R 8) ∧ Arg wx v8 [nb])
          · intro hS3_8
            refine M3.mix_fork3 rfl rfl rfl (fun K hK => ?_) (fun K hK => ?_) (fun K hK => ?_)
            · go_simp
              have hn : Below x0.heap.size x0 (x0.alloc (.cells #[.int .u8 1] 5)) := (Below.refl _ _).alloc (Nat.le_refl _) _
              have a0 : Arg (x0.alloc (.cells #[.int .u8 1] 5)) (.slice (some ⟨x0.heap.size, 0, none⟩) 1 1) [1] := arg_of (Blk.new x0 (encs .u8 [1]) 5).rd rfl (Nat.le_refl _)
              generalize x0.alloc (.cells #[.int .u8 1] 5) = x1 at *
              generalize Value.slice (some ⟨x0.heap.size, 0, none⟩) 1 1 = v0 at *
              replace hb := hb.trans (hn.mono hb.size)
              replace mb := mb.below hn mb.lt
              refine hK _ _ (fun _ _ => mb) ?_
              clear hK K hn
              refine M3.mix_fork rfl rfl (fun K hK => ?_) (fun K hK => ?_)
              · go_simp
                refine (rlow14_any R 8 _ (by omega)).mono ?_
                rintro e x2 ⟨v3, rfl, o3, hn⟩
                replace o3 : OwnB x2 _ v3 (low R 8) := o3
                have a3 := o3.arg
                clear o3
                replace hb := hb.trans (hn.mono hb.size)
                replace mb := mb.below hn mb.lt
                replace a0 := a0.below hn
                refine hK _ _ (fun _ _ => mb) ?_
                clear hK K hn
                exact hS0_3 v0 v3 x2 ⟨hb, mb, a0, a3⟩
              · go_simp
                have hn : Below x1.heap.size x1 (x1.alloc (.cells #[.int .u8 (wb nb)] 5)) := (Below.refl _ _).alloc (Nat.le_refl _) _
                have a8 : Arg (x1.alloc (.cells #[.int .u8 (wb nb)] 5)) (.slice (some ⟨x1.heap.size, 0, none⟩) 1 1) [nb] := arg_of (Blk.new x1 (encs .u8 [nb]) 5).rd rfl (Nat.le_refl _)
                generalize x1.alloc (.cells #[.int .u8 (wb nb)] 5) = x3 at *
                generalize Value.slice (some ⟨x1.heap.size, 0, none⟩) 1 1 = v8 at *
                replace hb := hb.trans (hn.mono hb.size)
                replace mb := mb.below hn mb.lt
                replace a0 := a0.below hn
                refine hK _ _ (fun _ _ => mb) ?_
                clear hK K hn
                exact hS0_8 v0 v8 x3 ⟨hb, mb, a0, a8⟩
            · go_simp
              refine (rlow14_any R 8 _ (by omega)).mono ?_
              rintro e x4 ⟨v3, rfl, o3, hn⟩
              replace o3 : OwnB x4 _ v3 (low R 8) := o3
              have a3 := o3.arg
              clear o3
              replace hb := hb.trans (hn.mono hb.size)
              replace mb := mb.below hn mb.lt
              refine hK _ _ (fun _ _ => mb) ?_
              clear hK K hn
              refine M3.mix_fork rfl rfl (fun K hK => ?_) (fun K hK => ?_)
              · go_simp
                have hn : Below x4.heap.size x4 (x4.alloc (.cells #[.int .u8 1] 5)) := (Below.refl _ _).alloc (Nat.le_refl _) _
                have a0 : Arg (x4.alloc (.cells #[.int .u8 1] 5)) (.slice (some ⟨x4.heap.size, 0, none⟩) 1 1) [1] := arg_of (Blk.new x4 (encs .u8 [1]) 5).rd rfl (Nat.le_refl _)
                generalize x4.alloc (.cells #[.int .u8 1] 5) = x5 at *
                generalize Value.slice (some ⟨x4.heap.size, 0, none⟩) 1 1 = v0 at *
                replace hb := hb.trans (hn.mono hb.size)
                replace mb := mb.below hn mb.lt
                replace a3 := a3.below hn
                refine hK _ _ (fun _ _ => mb) ?_
                clear hK K hn
                exact hS0_3 v0 v3 x5 ⟨hb, mb, a0, a3⟩
              · go_simp
                have hn : Below x4.heap.size x4 (x4.alloc (.cells #[.int .u8 (wb nb)] 5)) := (Below.refl _ _).alloc (Nat.le_refl _) _
                have a8 : Arg (x4.alloc (.cells #[.int .u8 (wb nb)] 5)) (.slice (some ⟨x4.heap.size, 0, none⟩) 1 1) [nb] := arg_of (Blk.new x4 (encs .u8 [nb]) 5).rd rfl (Nat.le_refl _)
                generalize x4.alloc (.cells #[.int .u8 (wb nb)] 5) = x6 at *
                generalize Value.slice (some ⟨x4.heap.size, 0, none⟩) 1 1 = v8 at *
                replace hb := hb.trans (hn.mono hb.size)
                replace mb := mb.below hn mb.lt
                replace a3 := a3.below hn
                refine hK _ _ (fun _ _ => mb) ?_
                clear hK K hn
                exact hS3_8 v3 v8 x6 ⟨hb, mb, a3, a8⟩
            · go_simp
              have hn : Below x0.heap.size x0 (x0.alloc (.cells #[.int .u8 (wb nb)] 5)) := (Below.refl _ _).alloc (Nat.le_refl _) _
              have a8 : Arg (x0.alloc (.cells #[.int .u8 (wb nb)] 5)) (.slice (some ⟨x0.heap.size, 0, none⟩) 1 1) [nb] := arg_of (Blk.new x0 (encs .u8 [nb]) 5).rd rfl (Nat.le_refl _)
              generalize x0.alloc (.cells #[.int .u8 (wb nb)] 5) = x7 at *
              generalize Value.slice (some ⟨x0.heap.size, 0, none⟩) 1 1 = v8 at *
              replace hb := hb.trans (hn.mono hb.size)
              replace mb := mb.below hn mb.lt
              refine hK _ _ (fun _ _ => mb) ?_
              clear hK K hn
              refine M3.mix_fork rfl rfl (fun K hK => ?_) (fun K hK => ?_)
              · go_simp
                have hn : Below x7.heap.size x7 (x7.alloc (.cells #[.int .u8 1] 5)) := (Below.refl _ _).alloc (Nat.le_refl _) _
                have a0 : Arg (x7.alloc (.cells #[.int .u8 1] 5)) (.slice (some ⟨x7.heap.size, 0, none⟩) 1 1) [1] := arg_of (Blk.new x7 (encs .u8 [1]) 5).rd rfl (Nat.le_refl _)
                generalize x7.alloc (.cells #[.int .u8 1] 5) = x8 at *
                generalize Value.slice (some ⟨x7.heap.size, 0, none⟩) 1 1 = v0 at *
                replace hb := hb.trans (hn.mono hb.size)
                replace mb := mb.below hn mb.lt
                replace a8 := a8.below hn
                refine hK _ _ (fun _ _ => mb) ?_
                clear hK K hn
                exact hS0_8 v0 v8 x8 ⟨hb, mb, a0, a8⟩
              · go_simp
                refine (rlow14_any R 8 _ (by omega)).mono ?_
                rintro e x9 ⟨v3, rfl, o3, hn⟩
                replace o3 : OwnB x9 _ v3 (low R 8) := o3
                have a3 := o3.arg
                clear o3
                replace hb := hb.trans (hn.mono hb.size)
                replace mb := mb.below hn mb.lt
                replace a8 := a8.below hn
                refine hK _ _ (fun _ _ => mb) ?_
                clear hK K hn
                exact hS3_8 v3 v8 x9 ⟨hb, mb, a3, a8⟩
          · intro v3 v8 wx hA
            obtain ⟨hb, mb, a3, a8⟩ := hA
            refine M3.mix_fork rfl rfl (fun K hK => ?_) (fun K hK => ?_)
            · go_simp
              have hn : Below wx.heap.size wx (wx.alloc (.cells #[.int .u8 1] 5)) := (Below.refl _ _).alloc (Nat.le_refl _) _
              have a0 : Arg (wx.alloc (.cells #[.int .u8 1] 5)) (.slice (some ⟨wx.heap.size, 0, none⟩) 1 1) [1] := arg_of (Blk.new wx (encs .u8 [1]) 5).rd rfl (Nat.le_refl _)
              generalize wx.alloc (.cells #[.int .u8 1] 5) = x10 at *
              generalize Value.slice (some ⟨wx.heap.size, 0, none⟩) 1 1 = v0 at *
              replace hb := hb.trans (hn.mono hb.size)
              replace mb := mb.below hn mb.lt
              replace a3 := a3.below hn
              replace a8 := a8.below hn
              refine hK _ _ (fun _ _ => mb) ?_
              clear hK K hn
              exact hS0_3_8 v0 v3 v8 x10 ⟨hb, mb, a0, a3, a8⟩
            · obtain ⟨A3, q3, rfl, _, _⟩ := id a3
              obtain ⟨A8, q8, rfl, _, _⟩ := id a8
              rw [low_length] at a3 ⊢
              go_simp
              have hn : Below wx.heap.size wx (wx.alloc (.cells #[.slice A3 8 q3, .slice A8 1 q8] 38)) := (Below.refl _ _).alloc (Nat.le_refl _) _
              have a9 : ArgsV (wx.alloc (.cells #[.slice A3 8 q3, .slice A8 1 q8] 38)) (.slice (some ⟨wx.heap.size, 0, none⟩) 2 2) [low R 8, [nb]] := ⟨_, _, rfl, args2 a3 a8⟩
              generalize wx.alloc (.cells #[.slice A3 8 q3, .slice A8 1 q8] 38) = x11 at *
              generalize Value.slice (some ⟨wx.heap.size, 0, none⟩) 2 2 = v9 at *
              generalize Value.slice A3 8 q3 = v3 at *
              generalize Value.slice A8 1 q8 = v8 at *
              replace hb := hb.trans (hn.mono hb.size)
              replace mb := mb.below hn mb.lt
              refine hK _ _ (fun _ _ => mb) ?_
              clear hK K hn
              try clear a3 a8
              refine M3.mix_eff rfl rfl (fun K hK => ?_)
              go_simp
              have hn : Below x11.heap.size x11 (x11.alloc (.cells #[.int .u8 1] 5)) := (Below.refl _ _).alloc (Nat.le_refl _) _
              have a0 : Arg (x11.alloc (.cells #[.int .u8 1] 5)) (.slice (some ⟨x11.heap.size, 0, none⟩) 1 1) [1] := arg_of (Blk.new x11 (encs .u8 [1]) 5).rd rfl (Nat.le_refl _)
              generalize x11.alloc (.cells #[.int .u8 1] 5) = x12 at *
              generalize Value.slice (some ⟨x11.heap.size, 0, none⟩) 1 1 = v0 at *
              replace hb := hb.trans (hn.mono hb.size)
              replace mb := mb.below hn mb.lt
              replace a9 := a9.below hn
              refine hK _ _ (fun _ _ => mb) ?_
              clear hK K hn
              exact hS0_3_8_9 v0 v3 v8 v9 x12 ⟨hb, mb, a0, a9⟩
        · intro v0 v8 wx hA
          obtain ⟨hb, mb, a0, a8⟩ := hA
          refine M3.mix_eff rfl rfl (fun K hK => ?_)
          go_simp
          refine (rlow14_any R 8 _ (by omega)).mono ?_
          rintro e x13 ⟨v3, rfl, o3, hn⟩
          replace o3 : OwnB x13 _ v3 (low R 8) := o3
          have a3 := o3.arg
          clear o3
          replace hb := hb.trans (hn.mono hb.size)
          replace mb := mb.below hn mb.lt
          replace a0 := a0.below hn
          replace a8 := a8.below hn
          refine hK _ _ (fun _ _ => mb) ?_
          clear hK K hn
          exact hS0_3_8 v0 v3 v8 x13 ⟨hb, mb, a0, a3, a8⟩
      · intro v0 v3 wx hA
        obtain ⟨hb, mb, a0, a3⟩ := hA
        refine M3.mix_eff rfl rfl (fun K hK => ?_)
        go_simp
        have hn : Below wx.heap.size wx (wx.alloc (.cells #[.int .u8 (wb nb)] 5)) := (Below.refl _ _).alloc (Nat.le_refl _) _
        have a8 : Arg (wx.alloc (.cells #[.int .u8 (wb nb)] 5)) (.slice (some ⟨wx.heap.size, 0, none⟩) 1 1) [nb] := arg_of (Blk.new wx (encs .u8 [nb]) 5).rd rfl (Nat.le_refl _)
        generalize wx.alloc (.cells #[.int .u8 (wb nb)] 5) = x14 at *
        generalize Value.slice (some ⟨wx.heap.size, 0, none⟩) 1 1 = v8 at *
        replace hb := hb.trans (hn.mono hb.size)
        replace mb := mb.below hn mb.lt
        replace a0 := a0.below hn
        replace a3 := a3.below hn
        refine hK _ _ (fun _ _ => mb) ?_
        clear hK K hn
        exact hS0_3_8 v0 v3 v8 x14 ⟨hb, mb, a0, a3, a8⟩
    · intro v0 v3 v8 wx hA
      obtain ⟨hb, mb, a0, a3, a8⟩ := hA
      refine M3.mix_eff rfl rfl (fun K hK => ?_)
      obtain ⟨A3, q3, rfl, _, _⟩ := id a3
      obtain ⟨A8, q8, rfl, _, _⟩ := id a8
      rw [low_length] at a3 ⊢
      go_simp
      have hn : Below wx.heap.size wx (wx.alloc (.cells #[.slice A3 8 q3, .slice A8 1 q8] 38)) := (Below.refl _ _).alloc (Nat.le_refl _) _
      have a9 : ArgsV (wx.alloc (.cells #[.slice A3 8 q3, .slice A8 1 q8] 38)) (.slice (some ⟨wx.heap.size, 0, none⟩) 2 2) [low R 8, [nb]] := ⟨_, _, rfl, args2 a3 a8⟩
      generalize wx.alloc (.cells #[.slice A3 8 q3, .slice A8 1 q8] 38) = x15 at *
      generalize Value.slice (some ⟨wx.heap.size, 0, none⟩) 2 2 = v9 at *
      generalize Value.slice A3 8 q3 = v3 at *
      generalize Value.slice A8 1 q8 = v8 at *
      replace hb := hb.trans (hn.mono hb.size)
      replace mb := mb.below hn mb.lt
      replace a0 := a0.below hn
      refine hK _ _ (fun _ _ => mb) ?_
      clear hK K hn
      try clear a3 a8
      exact hS0_3_8_9 v0 v3 v8 v9 x15 ⟨hb, mb, a0, a9⟩
  · intro v0 v3 v8 v9 wx hA
    obtain ⟨hb, mb, a0, a9⟩ := hA
    refine M3.mix_eff rfl rfl (fun K hK => ?_)
    obtain ⟨A9, q9, rfl, hA9⟩ := id a9
    go_simp
    refine (rboth14_any _ _ [low R 8, [nb]] _ _ _ a0 hA9 (by simp [low_length]) (by simp)).mono ?_
    rintro e x16 ⟨v10, rfl, o10, hn⟩
    rw [HF.out] at o10
    replace o10 : OwnB x16 wx.heap.size v10 hd := o10
    replace o10 := o10.base (show w.heap.size + 1 ≤ wx.heap.size by have := mb.lt; omega)
    replace hb := hb.trans (hn.mono hb.size)
    replace mb := mb.below hn mb.lt
    refine hK _ _ (fun _ _ => mb) ?_
    clear hK K hn
    try clear a0 a9
    repeat (refine M3.mix_pure rfl rfl (fun K hK => ?_); go_simp; refine hK _ ?_; clear hK K)
    refine M3.mix_nil ?_
    have hs0 := mb.lt
    have cH1 : x16.cell? ⟨w.heap.size, 1, none⟩ = some (.slice (some ⟨g, off, none⟩) n cap) := mb.cell 1
    obtain ⟨A9, c9, rfl, -, -⟩ := id o10.arg
    rw [HL0.out]
    rw [HL0.out] at o10
    have hni1 : 1 ≤ (n : Int) := by have := HN.out; omega
    go_wp2_with fail
    go_loopw [3, 20] (fun vo vi wr => ∃ k : Nat, k ≤ n ∧ vi = .int .i64 k ∧ OwnB wr (w.heap.size + 1) vo (hd ++ l.take (32 * k)) ∧ Below w.heap.size w wr ∧ w.heap.size < wr.heap.size) (fun _ vi _ => n - (intOf vi).toNat)
    case atStart => exact ⟨0, Nat.zero_le _, rfl, by rw [Nat.mul_zero, List.take_zero, List.append_nil]; exact o10, hb, hs0⟩
    case round =>
      clear o10 hb hs0 mb cH1
      obtain ⟨k, hk, rfl, ho, hb, hs0⟩ := hrel
      obtain ⟨oA, oc, rfl, -, -⟩ := id ho.arg
      have HLK : Hid ((hd ++ l.take (32 * k)).length = 10 + 32 * k) := by show _ = _; rw [List.length_append, HL0.out, List.length_take, HL.out]; omega
      rw [HLK.out]
      rw [HLK.out] at ho
      by_cases hlt : k < n
      · have i1 : (k : Int) < (n : Int) := by omega
        have hk0 : (0 : Int) ≤ (k : Int) := Int.natCast_nonneg _
        have HLT := Lib.hid hlt
        clear hlt
        obtain ⟨ky, hky⟩ : ∃ x, x = (l.drop (k * 32)).take 32 := ⟨_, rfl⟩
        have KL : Hid (ky.length = 32) := by show _ = _; rw [hky, List.length_take, List.length_drop, HL.out]; have := HLT.out; omega
        have hRk := (rd_off HR.out (k * 32) 32).below hb
        rw [← hky] at hRk
        have HTK : Hid ((hd ++ l.take (32 * k)) ++ ky = hd ++ l.take (32 * (k + 1))) := by
          show _ = _
          rw [hky, List.append_assoc, show 32 * (k + 1) = 32 * k + 32 by omega, List.take_add, Nat.mul_comm k 32]
        have HRK := Lib.hid hRk
        clear hky hRk
        generalize hd ++ l.take (32 * k) = cur at *
        have hn2 : Below wr.heap.size wr (wr.alloc (.cells (encs .u8 ky) 26)) := (Below.refl _ _).alloc (Nat.le_refl _) _
        have aK : Arg (wr.alloc (.cells (encs .u8 ky) 26)) (.slice (some ⟨wr.heap.size, 0, none⟩) 32 32) ky := arg_of (Blk.new wr (encs .u8 ky) 26).rd KL.out (Nat.le_refl _)
        have ho2 := ho.below hn2
        have hb2 := hb.trans (hn2.mono hb.size)
        have hs2 := hn2.size
        have HOB := Lib.hid ho2
        have HAK := Lib.hid aK
        clear hn2 ho hb aK ho2
        go_wp2_with (first | (refine wpList_load_rd rfl 26 _ rfl g (off + k * 32) rfl .u8 ky HRK.out _ Try.underlying26 rfl (by rw [KL.out]; exact sizeKey) ?_) | (refine wpList_store_last rfl 26 _ _ rfl _ _ (encs .u8 ky) 26 rfl rfl rfl (by rw [encs_size, KL.out]; exact sizeKey) (by rw [encs_size, KL.out]; rfl) (encs_one _ _) ?_; generalize wr.alloc (.cells (encs .u8 ky) 26) = w2 at *) | (at_builtin; refine wpList_app rfl _ _ rfl (w.heap.size + 1) _ cur rfl HOB.out _ ky rfl HAK.out (by rw [HLK.out, KL.out]; have := HLT.out; have := HN.out; omega) (by omega) (fun v4 w4 o4 hb4 => ?_); replace hb2 := hb2.trans (hb4.mono (by omega)); have hs4 := hb4.size; clear HOB HAK hb4) | fail)
        rw [HTK.out] at o4
        go_roundw
        case rel =>
          first | exact ⟨k + 1, by have := HLT.out; omega, by go_num, o4, hb2, by omega⟩ | ((repeat apply Exists.intro); exact ⟨⟨k + 1, by have := HLT.out; omega, by go_num, o4, hb2, by omega⟩, rfl⟩)
        case measure => simp [intOf]; have := HLT.out; omega
      · obtain rfl : k = n := by omega
        have HTA : Hid (l.take (32 * k) = l) := List.take_of_length_le (by rw [HL.out]; exact Nat.le_refl _)
        rw [HTA.out] at ho HLK
        have HHD := Lib.hid HAB.out
        have HNN := Lib.hid HN.out
        go_wp2_with fail
        go_loopw [3] (fun vo wr => ∃ j : Nat, j ≤ 96 - 32 * k ∧ OwnB wr (w.heap.size + 1) vo (hd ++ l ++ List.replicate j 0) ∧ Below w.heap.size w wr ∧ w.heap.size < wr.heap.size) (fun vo _ => 106 - sliceLen vo)
        case atStart => exact ⟨0, by omega, by simpa using ho, hb, hs0⟩
        case round =>
          clear ho hb hs0
          obtain ⟨j, hj, ho, hb, hs0⟩ := hrel
          obtain ⟨oA, oc, rfl, -, -⟩ := id ho.arg
          have HLJ : Hid ((hd ++ l ++ List.replicate j (0 : BitVec 8)).length = 10 + 32 * k + j) := by show _ = _; rw [List.length_append, HLK.out, List.length_replicate]
          rw [HLJ.out]
          rw [HLJ.out] at ho
          by_cases hlt : j < 96 - 32 * k
          · have i1 : ((10 + 32 * k + j : Nat) : Int) < 106 := by omega
            have HLT := Lib.hid hlt
            have HTJ : Hid (hd ++ l ++ List.replicate j (0 : BitVec 8) ++ [0] = hd ++ l ++ List.replicate (j + 1) 0) := by show _ = _; rw [List.append_assoc, ← List.replicate_succ']
            clear hlt
            generalize hd ++ l ++ List.replicate j (0 : BitVec 8) = cur at *
            have hn2 : Below wr.heap.size wr (wr.alloc (.cells #[.int .u8 0] 5)) := (Below.refl _ _).alloc (Nat.le_refl _) _
            have aK : Arg (wr.alloc (.cells #[.int .u8 0] 5)) (.slice (some ⟨wr.heap.size, 0, none⟩) 1 1) [0] := arg_of (Blk.new wr (encs .u8 [0]) 5).rd rfl (Nat.le_refl _)
            have ho2 := ho.below hn2
            have hb2 := hb.trans (hn2.mono hb.size)
            have hs2 := hn2.size
            have HOB := Lib.hid ho2
            have HAK := Lib.hid aK
            clear hn2 ho hb aK ho2
            go_wp2_with (first | (at_builtin; refine wpList_app rfl _ _ rfl (w.heap.size + 1) _ cur rfl HOB.out _ [0] rfl HAK.out (by rw [HLJ.out]; have := HLT.out; simp; omega) (by omega) (fun v4 w4 o4 hb4 => ?_); replace hb2 := hb2.trans (hb4.mono (by omega)); have hs4 := hb4.size; clear HOB HAK hb4) | fail)
            rw [HTJ.out] at o4
            go_roundw
            case rel =>
              first | exact ⟨j + 1, by have := HLT.out; omega, o4, hb2, by omega⟩ | ((repeat apply Exists.intro); exact ⟨⟨j + 1, by have := HLT.out; omega, o4, hb2, by omega⟩, rfl⟩)
            case measure =>
              obtain ⟨oA', oc', rfl, -, -⟩ := id o4.arg
              simp [sliceLen]; have := HLT.out; have := HL.out; have := HL0.out; omega
          · obtain rfl : j = 96 - 32 * k := by omega
            have i1 : ¬ ((10 + 32 * k + (96 - 32 * k) : Nat) : Int) < 106 := by have := HN.out; omega
            go_wp2_with fail
            go_ret
            exact ⟨_, rfl, by rw [HAB.out]; exact (ho.base (by omega)), hb⟩
def k9 : List (BitVec 8) := 9 :: List.replicate 31 0
theorem build_k9 (w : World) : (Instr.build 26 #[(0, .int .u8 9)]).run Try.prog w = .ok (.agg (encs .u8 k9)) w := by kernel_rfl
theorem build_ann2 (r : BitVec 64) (A : Option Addr) (n cap : Nat) (w : World) : (Instr.build 78 #[(0, .int .u64 (wb r)), (1, .slice A n cap)]).run Try.prog w = .ok (.agg #[.int .u64 (wb r), .slice A n cap]) w := by kernel_rfl
def roomK (n : Nat) : Array Value := madeCells (encs .u8 z32k) (n * 32)
theorem run_make_keys (m : Nat) (hm : m ≤ 4398046511105) (w : World) : (Instr.makeSlice 76 (.int .i64 0) (.int .i64 (m : Int))).run Try.prog w = .ok (.slice (some ⟨w.heap.size, 0, none⟩) 0 m) (w.alloc (.cells (roomK m) 26)) := by
  obtain ⟨i, hi, hz, hs, hb⟩ := info_parts keysT.hi
  have := run_make (P := Try.prog) w 76 26 i _ Try.underlying76 hi hz .i64 .i64 0 (m : Int) (by omega) (by omega) (by rw [hb]; omega) (by omega)
  rw [Int.toNat_natCast, hs, show (0 : Int).toNat = 0 from rfl] at this
  exact this
/-- A row of one key, in a block of its own. -/
def KeyS (w : World) (v : Value) (k : List (BitVec 8)) : Prop := ∃ g, v = .slice (some ⟨g, 0, none⟩) 1 1 ∧ Blk w g (encs .u8 k) 26
theorem KeyS.below {w w' : World} {v : Value} {k : List (BitVec 8)} (h : KeyS w v k) (hb : Below w.heap.size w w') : KeyS w' v k :=
  let ⟨g, h1, h2⟩ := h
  ⟨g, h1, h2.below hb h2.lt⟩
theorem KeyS.new (w : World) (k : List (BitVec 8)) : KeyS (w.alloc (.cells (encs .u8 k) 26)) (.slice (some ⟨w.heap.size, 0, none⟩) 1 1) k := ⟨_, rfl, Blk.new _ _ _⟩
/-- .. apart from u's block. -/
def KeyA (w : World) (v u : Value) (k : List (BitVec 8)) : Prop := ∃ g, v = .slice (some ⟨g, 0, none⟩) 1 1 ∧ Blk w g (encs .u8 k) 26 ∧ some g ≠ u.ownBlock
theorem KeyA.below {w w' : World} {v u : Value} {k : List (BitVec 8)} (h : KeyA w v u k) (hb : Below w.heap.size w w') : KeyA w' v u k :=
  let ⟨g, h1, h2, h3⟩ := h
  ⟨g, h1, h2.below hb h2.lt, h3⟩
theorem KeyA.new {w : World} {base n : Nat} {u : Value} {l : List (BitVec 8)} (h : OwnK w base u n l) (k : List (BitVec 8)) : KeyA (w.alloc (.cells (encs .u8 k) 26)) (.slice (some ⟨w.heap.size, 0, none⟩) 1 1) u k :=
  ⟨_, rfl, Blk.new _ _ _, fun e => by have := (h.lt _ e.symm).2; omega⟩
theorem KeyS.apart {w w' : World} {v : Value} {k : List (BitVec 8)} {n c : Nat} (h : KeyS w v k) (hb : Below w.heap.size w w') : KeyA w' v (.slice (some ⟨w.heap.size, 0, none⟩) n c) k :=
  let ⟨g, h1, h2⟩ := h
  ⟨g, h1, h2.below hb h2.lt, fun e => by have := h2.lt; simp [Value.ownBlock] at e; omega⟩
theorem KeyA.grown {w w' : World} {v u : Value} {k : List (BitVec 8)} (h : KeyA w v u k) (hg : w.grownBy w' u.ownBlock) : KeyS w' v k :=
  let ⟨g, h1, h2, h3⟩ := h
  ⟨g, h1, (hg.block g h2.lt h3).trans h2⟩
theorem step_appks {ops : Array Oper} {o : Oper} {a : Act} {Q : Exit → Act → World → Prop} {w : World} {K : Act → World → Prop} {E : Prop} (hgd : o.guard = none) (s x : Operand) (ho : o.op = .call { callee := .builtin .append, args := #[s, x], argTypes := #[76, 76] })
    (base : Nat) (v : Value) (n : Nat) (l : List (BitVec 8)) (hs : a.eval s = v) (hown : OwnK w base v n l) (A : Option Addr) (m c : Nat) (k : List (BitVec 8)) (hx : a.eval x = .slice A m c) (hR : Rd w .u8 A k) (hk : k.length = 32 * m) (hn : n + m ≤ 4398046511104) (hbase : base ≤ w.heap.size)
    (h : ∀ v' w', OwnK w' base v' (n + m) (l ++ k) → w.grownBy w' v.ownBlock → Below base w w' → K (a.put o.dst v') w') : if Region.wanted o (yielded ops a.tmps) = true then Oper.wp Try.prog o a w K Q else E := by
  refine step_append_row hgd s x keysT ho base v n (encL .u8 l) hs hown A m c (encL .u8 k) hx (by rw [encL_length, hk]; omega) hR.cells (encL_one _ _) (by omega) hbase ?_
  intro v' w' h2 hgr _
  refine h v' w' ?_ hgr (below_grown (Below.refl _ _) hbase hgr (fun q hq => (hown.lt q hq).1))
  unfold OwnK
  rw [encL_append]
  exact h2
theorem step_appk1 {ops : Array Oper} {o : Oper} {a : Act} {Q : Exit → Act → World → Prop} {w : World} {K : Act → World → Prop} {E : Prop} (hgd : o.guard = none) (s x : Operand) (ho : o.op = .call { callee := .builtin .append, args := #[s, x], argTypes := #[76, 76] })
    (base : Nat) (v : Value) (n : Nat) (l : List (BitVec 8)) (hs : a.eval s = v) (hown : OwnK w base v n l) (g : Nat) (k : List (BitVec 8)) (hk : k.length = 32) (hx : a.eval x = .slice (some ⟨g, 0, none⟩) 1 1) (hB : Blk w g (encs .u8 k) 26) (hn : n + 1 ≤ 4398046511104) (hbase : base ≤ w.heap.size)
    (h : ∀ v' w', OwnK w' base v' (n + 1) (l ++ k) → w.grownBy w' v.ownBlock → Below base w w' → K (a.put o.dst v') w') : if Region.wanted o (yielded ops a.tmps) = true then Oper.wp Try.prog o a w K Q else E :=
  step_appks hgd s x ho base v n l hs hown _ 1 1 k hx hB.rd (by omega) hn hbase h
theorem ownk_rd {w : World} {base n : Nat} {A : Option Addr} {c : Nat} {l : List (BitVec 8)} (h : OwnK w base (.slice A n c) n l) : n ≤ c ∧ Rd w .u8 A l := by
  obtain ⟨A', cap, hv, hc, _, hC, _, ha⟩ := owns_form h
  cases hv
  refine ⟨hc, fun i hi => ?_⟩
  obtain ⟨a, rfl, hx⟩ := hC i _ (encL_get .u8 l i hi)
  obtain ⟨h1, h2, _⟩ := ha a rfl
  obtain ⟨g, off, spot⟩ := a
  simp only at h1 h2
  subst h1 h2
  rw [add_lit] at hx
  exact ⟨g, 0, rfl, hx⟩
theorem argk_cut {w : World} {A : Option Addr} {n c : Nat} {l : List (BitVec 8)} (h : Rd w .u8 A (l ++ k9)) (hc : n + 1 ≤ c) (hl : l.length = 32 * n) : ArgK w (.slice A n c) n l :=
  ⟨A, c, rfl, by omega, fun i hi => by
    obtain ⟨g, off, h1, h2⟩ := h i (by rw [List.length_append]; omega)
    refine ⟨g, off, h1, ?_⟩
    rw [h2]
    simp [List.getD, List.getElem?_append_left hi, hi], hl⟩
theorem last_key {w : World} {A : Option Addr} {n : Nat} {l : List (BitVec 8)} (h : Rd w .u8 A (l ++ k9)) (hl : l.length = 32 * n) : ∃ g off, A = some ⟨g, off, none⟩ ∧ Rd w .u8 (some ⟨g, off + n * 32, none⟩) k9 := by
  obtain ⟨g, off, rfl, -⟩ := h 0 (by simp [k9])
  refine ⟨g, off, rfl, ?_⟩
  have := rd_off h (n * 32) 32
  rw [List.drop_append_of_le_length (by omega), List.drop_of_length_le (by omega), List.nil_append] at this
  exact this
theorem ann_z (d : List (BitVec 8)) (h : ¬ d.length = 106) : annE d = 240 ∧ wb (annR d) = 0 ∧ annN d = 0 := by
  unfold annE annR annN annOk
  simp [h]
  rfl
theorem ann_n (d : List (BitVec 8)) (h : d.length = 106) (ho : okA d = false) : annE d = 241 ∧ wb (annR d) = 0 ∧ annN d = 0 := by
  unfold annE annR annN annOk
  simp [h, ho]
  rfl
theorem ann_o (d : List (BitVec 8)) (h : d.length = 106) (ho : okA d = true) : annE d = 0 ∧ annR d = get64 (d.drop 1) ∧ annN d = annM d ∧ annL d = (d.drop 10).take (32 * annM d) ∧ (annL d).length = 32 * annN d := by
  have hk : annOk d = true := by unfold annOk; simp [h, ho]
  have hm : annM d ≤ 3 := by
    unfold okA rightA at ho
    simp at ho
    omega
  refine ⟨by unfold annE; simp [h, ho], by unfold annR; rw [if_pos hk], by unfold annN; rw [if_pos hk], by unfold annL; rw [if_pos hk], ?_⟩
  unfold annL annN
  rw [if_pos hk, if_pos hk, List.length_take, List.length_drop]
  omega
theorem OwnK.argKey {w : World} {base n : Nat} {v : Value} {l : List (BitVec 8)} (h : OwnK w base v n l) (hl : l.length = 32 * n) : ArgK w v n l := by
  obtain ⟨A, cap, rfl⟩ := h.form
  obtain ⟨h1, h2⟩ := ownk_rd h
  exact ⟨A, cap, rfl, h1, h2, hl⟩
set_option maxRecDepth 100000 in
set_option maxHeartbeats 8000000 in
theorem annw_t (R : BitVec 64) (A : Option Addr) (n cap : Nat) (l b : List (BitVec 8)) (Ab : Option Addr) (cb : Nat) (w : World) (hcap : n ≤ cap) (hsz : cap * 32 ≤ 140737488351232) (hR : Rd w .u8 A l) (hl : l.length = 32 * n) (hRb : Rd w .u8 Ab b) (hcb : b.length ≤ cb) (hok : rightA R n = true) :
    Calls Try.prog 7 #[.agg #[.int .u64 (wb R), .slice A n cap], .slice Ab b.length cb] w fun e w' => e = .returned (.bool true) ∧ Below w.heap.size w w' := by
  obtain ⟨d, hd⟩ : ∃ d, d = b.take 1000 := ⟨_, rfl⟩
  have HB := Lib.hid (arg_mk hRb hcb)
  have hdl : d.length ≤ 1000 := by rw [hd, List.length_take]; omega
  have HDD := Lib.hid hd
  have HDL := Lib.hid hdl
  have HM : Hid (d.length ≤ 1048576) := by show _ ≤ _; omega
  have HOK := Lib.hid hok
  have HC := Lib.hid hcap
  have HL := Lib.hid hl
  have HN : Hid (n ≤ 4398046510976) := by show _ ≤ _; omega
  have hni : (n : Int) ≤ 4398046510976 := by omega
  have HAA : Hid ((annB R n l == annB R n l) = true) := by show _ = _; simp
  have hmk := fun wx => run_make_keys (n + 2) (by omega) wx
  rw [Int.natCast_add, show ((2 : Nat) : Int) = 2 from rfl] at hmk
  have i9 : (n : Int) < (n : Int) + 1 := by omega
  have hwr : IntKind.i64.wrap ((n : Int) + 2) = (n : Int) + 2 := IntWalk.i64_in _ (by omega)
  have hnk := fun wx => neq_key k9 k9 rfl rfl wx
  rw [show (!(k9 == k9)) = false by simp] at hnk
  have mb := Blk.new w #[.int .u64 (wb R), .slice A n cap] 78
  have hw0 : Below w.heap.size w (w.alloc (.cells #[.int .u64 (wb R), .slice A n cap] 78)) := (Below.refl _ _).alloc (Nat.le_refl _) _
  clear hcap hsz hl hRb hcb hok hd hdl
  go_enter Try.func7, Try.ntmps7
  go_wp2_with fail
  refine (wakes_any _).mono ?_
  rintro e w1 ⟨rfl, hn⟩
  have hw := hw0.trans (hn.mono hw0.size)
  replace mb := mb.below hn mb.lt
  have hs : w.heap.size < w1.heap.size := mb.lt
  have HR := Lib.hid (hR.below hw)
  clear hn hw0 hR
  go_wp2_with fail
  refine (cut_v (HB.out.below hw)).mono ?_
  rintro e w' ⟨u0, rfl, a0, rfl⟩
  rw [← HDD.out] at a0
  obtain ⟨A0, c0, rfl, -, -⟩ := id a0
  have HD := Lib.hid a0
  clear a0
  go_wp2_with fail
  refine mix_plan (fun w' => Blk w' w.heap.size #[.int .u64 (wb R), .slice A n cap] 78) (.step 0 (.step 1 (.step 2 (.step 3 (.step 5 (.step 6 (.step 8 (.fork 4 9 (.fork 7 9 (.step 9 (.step 10 (.step 11 (.done)))) (.step 7 (.step 10 (.step 11 (.done))))) (.step 4 (.step 7 (.step 10 (.step 11 (.done))))))))))))) [4, 7, 9, 10] [1, 6] [] (by kernel_rfl) (by kernel_rfl) (fun d _ _ _ _ h => by cases d <;> exact h) mb.drew ?_
  replace mb := mb.drew
  have hb := (Below.refl w1.heap.size w1).drew
  generalize w1.drew = x0 at *
  repeat (refine mix_pure rfl rfl (fun K hK => ?_); go_simp; refine hK _ ?_; clear hK K)
  apply share3 (A := fun v4 v7 v9 wx => Below w1.heap.size w1 wx ∧ Blk wx w.heap.size #[.int .u64 (wb R), .slice A n cap] 78 ∧ KeyS wx v9 k9 ∧ OwnK wx w1.heap.size v7 n l)
  · intro hS1_4_6_7_8_9
    apply share2 (A := fun v4 v9 wx => Below w1.heap.size w1 wx ∧ Blk wx w.heap.size #[.int .u64 (wb R), .slice A n cap] 78 ∧ OwnK wx w1.heap.size v4 0 [] ∧ KeyA wx v9 v4 k9)
    · intro hS1_4_6_8_9
      refine mix_read (.slice A n cap) rfl rfl rfl rfl (fun w' hS => ?_) ?_
      · have k5 : w'.cell? ⟨w.heap.size, 1, none⟩ = some (.slice A n cap) := hS.cell 1
        go_simp
      repeat (refine mix_pure rfl rfl (fun K hK => ?_); go_simp; refine hK _ ?_; clear hK K)
      refine mix_read (.slice A n cap) rfl rfl rfl rfl (fun w' hS => ?_) ?_
      · have k5 : w'.cell? ⟨w.heap.size, 1, none⟩ = some (.slice A n cap) := hS.cell 1
        go_simp
      refine mix_build rfl rfl rfl 26 _ rfl (.agg (encs .u8 k9)) #[(0, .int .u8 9)] build_k9 (by simp [Act.eval]) ?_
      refine mix_fork rfl rfl (fun K hK => ?_) (fun K hK => ?_)
      · go_simp
        have hn : Below x0.heap.size x0 (x0.alloc (.cells (roomK (n + 2)) 26)) := (Below.refl _ _).alloc (Nat.le_refl _) _
        have o4 : OwnK (x0.alloc (.cells (roomK (n + 2)) 26)) w1.heap.size (.slice (some ⟨x0.heap.size, 0, none⟩) 0 (n + 2)) 0 [] := World.ownsRow_made _ _ _ hb.size (by have := HN.out; unfold maxLen; omega) (by simp [roomK, madeCells])
        generalize x0.alloc (.cells (roomK (n + 2)) 26) = x1 at *
        generalize Value.slice (some ⟨x0.heap.size, 0, none⟩) 0 (n + 2) = v4 at *
        replace hb := hb.trans (hn.mono hb.size)
        replace mb := mb.below hn mb.lt
        refine hK _ _ (fun _ _ => mb) ?_
        clear hK K hn
        refine mix_fork rfl rfl (fun K hK => ?_) (fun K hK => ?_)
        · skip
          refine step_appks rfl _ _ rfl w1.heap.size _ 0 [] rfl o4 A n cap l rfl (HR.out.below hb) HL.out (by have := HN.out; omega) hb.size (fun v7 x2 o7 hgr hb7 => ?_)
          rw [Nat.zero_add, List.nil_append] at o7
          replace mb := mb.below hb7 hs
          replace hb := hb.trans hb7
          clear hb7 hgr
          refine hK _ _ (fun _ _ => mb) ?_
          clear hK K
          try clear o4
          refine mix_eff rfl rfl (fun K hK => ?_)
          refine step_bslice_key rfl _ rfl k9 rfl rfl ?_
          skip
          have hn : Below x2.heap.size x2 (x2.alloc (.cells (encs .u8 k9) 26)) := (Below.refl _ _).alloc (Nat.le_refl _) _
          have t9 : KeyS (x2.alloc (.cells (encs .u8 k9) 26)) (.slice (some ⟨x2.heap.size, 0, none⟩) 1 1) k9 := KeyS.new _ _
          generalize x2.alloc (.cells (encs .u8 k9) 26) = x3 at *
          generalize Value.slice (some ⟨x2.heap.size, 0, none⟩) 1 1 = v9 at *
          replace hb := hb.trans (hn.mono hb.size)
          replace mb := mb.below hn mb.lt
          replace o7 := o7.below hn
          refine hK _ _ (fun _ _ => mb) ?_
          clear hK K hn
          exact hS1_4_6_7_8_9 v4 v7 v9 x3 ⟨hb, mb, t9, o7⟩
        · refine step_bslice_key rfl _ rfl k9 rfl rfl ?_
          skip
          have hn : Below x1.heap.size x1 (x1.alloc (.cells (encs .u8 k9) 26)) := (Below.refl _ _).alloc (Nat.le_refl _) _
          have s9 : KeyA (x1.alloc (.cells (encs .u8 k9) 26)) (.slice (some ⟨x1.heap.size, 0, none⟩) 1 1) v4 k9 := KeyA.new o4 _
          generalize x1.alloc (.cells (encs .u8 k9) 26) = x4 at *
          generalize Value.slice (some ⟨x1.heap.size, 0, none⟩) 1 1 = v9 at *
          replace hb := hb.trans (hn.mono hb.size)
          replace mb := mb.below hn mb.lt
          replace o4 := o4.below hn
          refine hK _ _ (fun _ _ => mb) ?_
          clear hK K hn
          exact hS1_4_6_8_9 v4 v9 x4 ⟨hb, mb, o4, s9⟩
      · refine step_bslice_key rfl _ rfl k9 rfl rfl ?_
        skip
        have hn : Below x0.heap.size x0 (x0.alloc (.cells (encs .u8 k9) 26)) := (Below.refl _ _).alloc (Nat.le_refl _) _
        have e9 : KeyS (x0.alloc (.cells (encs .u8 k9) 26)) (.slice (some ⟨x0.heap.size, 0, none⟩) 1 1) k9 := KeyS.new _ _
        generalize x0.alloc (.cells (encs .u8 k9) 26) = x5 at *
        generalize Value.slice (some ⟨x0.heap.size, 0, none⟩) 1 1 = v9 at *
        replace hb := hb.trans (hn.mono hb.size)
        replace mb := mb.below hn mb.lt
        refine hK _ _ (fun _ _ => mb) ?_
        clear hK K hn
        refine mix_eff rfl rfl (fun K hK => ?_)
        go_simp
        have hn : Below x5.heap.size x5 (x5.alloc (.cells (roomK (n + 2)) 26)) := (Below.refl _ _).alloc (Nat.le_refl _) _
        have o4 : OwnK (x5.alloc (.cells (roomK (n + 2)) 26)) w1.heap.size (.slice (some ⟨x5.heap.size, 0, none⟩) 0 (n + 2)) 0 [] := World.ownsRow_made _ _ _ hb.size (by have := HN.out; unfold maxLen; omega) (by simp [roomK, madeCells])
        have s9 : KeyA (x5.alloc (.cells (roomK (n + 2)) 26)) v9 (.slice (some ⟨x5.heap.size, 0, none⟩) 0 (n + 2)) k9 := e9.apart hn
        clear e9
        generalize x5.alloc (.cells (roomK (n + 2)) 26) = x6 at *
        generalize Value.slice (some ⟨x5.heap.size, 0, none⟩) 0 (n + 2) = v4 at *
        replace hb := hb.trans (hn.mono hb.size)
        replace mb := mb.below hn mb.lt
        refine hK _ _ (fun _ _ => mb) ?_
        clear hK K hn
        try clear e9
        exact hS1_4_6_8_9 v4 v9 x6 ⟨hb, mb, o4, s9⟩
    · intro v4 v9 wx hA
      obtain ⟨hb, mb, o4, s9⟩ := hA
      refine mix_eff rfl rfl (fun K hK => ?_)
      skip
      refine step_appks rfl _ _ rfl w1.heap.size _ 0 [] rfl o4 A n cap l rfl (HR.out.below hb) HL.out (by have := HN.out; omega) hb.size (fun v7 x7 o7 hgr hb7 => ?_)
      rw [Nat.zero_add, List.nil_append] at o7
      replace mb := mb.below hb7 hs
      replace hb := hb.trans hb7
      have t9 := s9.grown hgr
      clear s9
      clear hb7 hgr
      refine hK _ _ (fun _ _ => mb) ?_
      clear hK K
      try clear o4 s9
      exact hS1_4_6_7_8_9 v4 v7 v9 x7 ⟨hb, mb, t9, o7⟩
  · intro v4 v7 v9 wx hA
    obtain ⟨hb, mb, t9, o7⟩ := hA
    refine mix_eff rfl rfl (fun K hK => ?_)
    obtain ⟨g9, rfl, B9⟩ := id t9
    skip
    refine step_appk1 rfl _ _ rfl w1.heap.size _ n l rfl o7 g9 k9 rfl rfl B9 (by have := HN.out; omega) hb.size (fun v10 x8 o10 hgr hb10 => ?_)
    replace mb := mb.below hb10 hs
    replace hb := hb.trans hb10
    clear hb10 hgr B9
    refine hK _ _ (fun _ _ => mb) ?_
    clear hK K
    try clear t9 o7
    repeat (refine mix_pure rfl rfl (fun K hK => ?_); go_simp; refine hK _ ?_; clear hK K)
    refine mix_nil ?_
    obtain ⟨G, c10, rfl⟩ := id o10.form
    obtain ⟨hc10, hR10⟩ := ownk_rd o10
    have hak := argk_cut hR10 hc10 HL.out
    have hsl := fun wx => run_slice_to (P := Try.prog) keysT G (n + 1) c10 (n : Int) .i64 (by omega) (by omega) wx
    rw [cutA_zero, Int.toNat_natCast] at hsl
    obtain ⟨g10, f10, rfl, hk9⟩ := last_key hR10 HL.out
    clear o10 hR10
    have hbu := build_ann2 R (some ⟨g10, f10, none⟩) n c10
    go_wp2_with fail
    refine mix_start (fun w' => Blk w' w.heap.size #[.int .u64 (wb R), .slice A n cap] 78) (List.range 14) [8] [1, 4] [] (by kernel_rfl) (by kernel_rfl) (fun d _ _ _ _ h => by cases d <;> exact h) mb.drew ?_
    replace mb := mb.drew
    replace hb := hb.drew
    replace hak : ArgK x8.drew _ _ _ := hak
    replace hk9 : Rd x8.drew _ _ _ := hk9
    generalize x8.drew = y1 at *
    repeat (refine mix_pure rfl rfl (fun K hK => ?_); go_simp; refine hK _ ?_; clear hK K)
    refine mix_read (.int .u64 (wb R)) rfl rfl rfl rfl (fun w' hS => ?_) ?_
    · have k5 : w'.cell? ⟨w.heap.size, 0, none⟩ = some (.int .u64 (wb R)) := hS.cell 0
      go_simp
    repeat (refine mix_pure rfl rfl (fun K hK => ?_); go_simp; refine hK _ ?_; clear hK K)
    refine mix_read (.slice A n cap) rfl rfl rfl rfl (fun w' hS => ?_) ?_
    · have k5 : w'.cell? ⟨w.heap.size, 1, none⟩ = some (.slice A n cap) := hS.cell 1
      go_simp
    repeat (refine mix_pure rfl rfl (fun K hK => ?_); go_simp; refine hK _ ?_; clear hK K)
    refine mix_eff rfl rfl (fun K hK => ?_)
    go_simp
    refine (putann_any R n _ l y1 hak (by have := HN.out; omega)).mono ?_
    rintro e y2 ⟨h1, hn⟩
    rw [if_pos HOK.out] at h1
    obtain ⟨v4, rfl, o4⟩ := h1
    have p4 := o4.arg
    obtain ⟨A4, c4, rfl, -, -⟩ := id p4
    clear o4
    replace hb := hb.trans (hn.mono hb.size)
    replace mb := mb.below hn mb.lt
    replace hak := hak.below hn
    replace hk9 := hk9.below hn
    refine hK _ _ (fun _ _ => mb) ?_
    clear hK K hn
    repeat (refine mix_pure rfl rfl (fun K hK => ?_); go_simp; refine hK _ ?_; clear hK K)
    refine mix_nil ?_
    go_wp2_with fail
    refine mix_start (fun w' => Blk w' w.heap.size #[.int .u64 (wb R), .slice A n cap] 78 ∧ Rd w' .u8 (some ⟨g10, f10 + n * 32, none⟩) k9) (List.range 19) [7] [2, 6, 12, 15] [] (by kernel_rfl) (by kernel_rfl) (fun d _ _ _ _ h => by cases d <;> exact h) ⟨mb.drew, hk9⟩ ?_
    replace mb := mb.drew
    replace hb := hb.drew
    replace hak : ArgK y2.drew _ _ _ := hak
    replace hk9 : Rd y2.drew _ _ _ := hk9
    replace p4 : Arg y2.drew _ _ := p4
    generalize y2.drew = y3 at *
    repeat (refine mix_pure rfl rfl (fun K hK => ?_); go_simp; refine hK _ ?_; clear hK K)
    refine mix_read (.slice A n cap) rfl rfl rfl rfl (fun w' hS => ?_) ?_
    · have k5 : w'.cell? ⟨w.heap.size, 1, none⟩ = some (.slice A n cap) := hS.1.cell 1
      go_simp
    repeat (refine mix_pure rfl rfl (fun K hK => ?_); go_simp; refine hK _ ?_; clear hK K)
    refine mix_read (.slice A n cap) rfl rfl rfl rfl (fun w' hS => ?_) ?_
    · have k5 : w'.cell? ⟨w.heap.size, 1, none⟩ = some (.slice A n cap) := hS.1.cell 1
      go_simp
    repeat (refine mix_pure rfl rfl (fun K hK => ?_); go_simp; refine hK _ ?_; clear hK K)
    refine mix_eff rfl rfl (fun K hK => ?_)
    go_simp
    refine (hops_any hak (⟨A, cap, rfl, HC.out, HR.out.below hb, HL.out⟩ : ArgK y3 (.slice A n cap) n l) (by have := HN.out; omega)).mono ?_
    rintro e y4 ⟨he, hn⟩
    replace he : e = .returned (.bool true) := by rw [he]; simp
    subst he
    replace hb := hb.trans (hn.mono hb.size)
    replace mb := mb.below hn mb.lt
    replace hk9 := hk9.below hn
    replace p4 := p4.below hn
    refine hK _ _ (fun _ _ => ⟨mb, hk9⟩) ?_
    clear hK K hn hak
    repeat (refine mix_pure rfl rfl (fun K hK => ?_); go_simp; refine hK _ ?_; clear hK K)
    refine mix_read (.slice A n cap) rfl rfl rfl rfl (fun w' hS => ?_) ?_
    · have k5 : w'.cell? ⟨w.heap.size, 1, none⟩ = some (.slice A n cap) := hS.1.cell 1
      go_simp
    repeat (refine mix_pure rfl rfl (fun K hK => ?_); go_simp; refine hK _ ?_; clear hK K)
    refine mix_load_rd rfl rfl rfl rfl 26 _ rfl g10 (f10 + n * 32) rfl .u8 k9 (fun w' hS => hS.2) _ Try.underlying26 rfl (by rw [show k9.length = 32 from rfl]; exact sizeKey) ?_
    refine mix_build rfl rfl rfl 26 _ rfl (.agg (encs .u8 k9)) #[(0, .int .u8 9)] build_k9 (by simp [Act.eval]) ?_
    repeat (refine mix_pure rfl rfl (fun K hK => ?_); go_simp; refine hK _ ?_; clear hK K)
    refine mix_nil ?_
    clear hk9
    go_wp2_with (first | (refine wpList_load_row rfl 78 _ rfl w.heap.size rfl 78 #[.int .u64 (wb R), .slice A n cap] _ _ mb Try.underlying78 rfl (by exact size_ann) ?_) | fail)
    refine (rright_any3 R A n cap _).mono ?_
    rintro e y5 ⟨rfl, hn⟩
    rw [HOK.out]
    replace hb := hb.trans (hn.mono hb.size)
    replace mb := mb.below hn mb.lt
    replace p4 := p4.below hn
    clear hn
    go_wp2_with (first | (refine wpList_load_row_ga rfl 78 _ rfl w.heap.size rfl 78 #[.int .u64 (wb R), .slice A n cap] _ _ mb Try.underlying78 rfl (by exact size_ann) ?_) | fail)
    refine (rannounce_any R n _ l _ ⟨A, cap, rfl, HC.out, HR.out.below hb, HL.out⟩ HOK.out).mono ?_
    rintro e y6 ⟨v6, rfl, o6, hn⟩
    replace o6 : OwnB y6 _ v6 _ := o6
    have p6 := o6.arg
    replace hb := hb.trans (hn.mono hb.size)
    replace p4 := p4.below hn
    clear hn o6 mb
    go_wp2_with fail
    refine (bytesEqual_v p4 p6).mono ?_
    rintro e w' ⟨rfl, rfl⟩
    rw [HAA.out]
    clear p4 p6
    go_wp2_with fail
    by_cases h106 : d.length = 106
    · have H106 := Lib.hid h106
      rw [h106] at HD ⊢
      cases hoa : okA d with
      | true =>
        have HOA := Lib.hid hoa
        have HZ := Lib.hid (ann_o d h106 hoa)
        clear h106 hoa
        refine (room_v (HD.out.below hb) HDL.out).mono ?_
        rintro e x7 ⟨rv, rfl, ar, hn⟩
        replace hb := hb.trans (hn.mono hb.size)
        clear hn
        go_wp2_with fail
        refine (getann_any d _ _ ar HM.out).mono ?_
        rintro e x8 ⟨v8, rfl, o8, hn⟩
        obtain ⟨G8, c8, rfl⟩ := id o8.form
        replace hb := hb.trans (hn.mono hb.size)
        clear hn ar
        have hn : Below x8.heap.size x8 (x8.alloc (.cells #[.int .u64 (wb (annR d)), .slice G8 (annN d) c8] 78)) := (Below.refl _ _).alloc (Nat.le_refl _) _
        have mb8 := Blk.new x8 #[.int .u64 (wb (annR d)), .slice G8 (annN d) c8] 78
        replace hb := hb.trans (hn.mono hb.size)
        replace o8 := o8.below hn
        clear hn
        have hE : annE d = 0 := HZ.out.1
        go_wp2_with (first | (refine wpList_store_last rfl 78 _ _ rfl _ _ #[.int .u64 (wb (annR d)), .slice G8 (annN d) c8] 78 rfl rfl rfl (by exact size_ann) (by simp) (by simp [Value.oneCell']) ?_; generalize x8.alloc (.cells #[.int .u64 (wb (annR d)), .slice G8 (annN d) c8] 78) = y8 at *) | fail)
        refine (rgetann_any d _ _ (HD.out.below hb) H106.out).mono ?_
        rintro e x9 ⟨R9, v9, n9, l9, rfl, o9, hq9, hn⟩
        obtain ⟨G9, c9, rfl⟩ := id o9.form
        rw [HOA.out]
        replace hb := hb.trans (hn.mono hb.size)
        replace mb8 := mb8.below hn mb8.lt
        replace o8 := o8.below hn
        have hn : Below x9.heap.size x9 (x9.alloc (.cells #[.int .u64 (wb R9), .slice G9 n9 c9] 78)) := (Below.refl _ _).alloc (Nat.le_refl _) _
        have mb9 := Blk.new x9 #[.int .u64 (wb R9), .slice G9 n9 c9] 78
        replace hb := hb.trans (hn.mono hb.size)
        replace mb8 := mb8.below hn mb8.lt
        replace o8 := o8.below hn
        replace o9 := o9.below hn
        clear hn
        obtain ⟨e1, e2, e3⟩ := hq9 HOA.out
        have e4 : R9 = annR d := e1.trans HZ.out.2.1.symm
        have e5 : n9 = annN d := e2.trans HZ.out.2.2.1.symm
        have e6 : l9 = annL d := e3.trans HZ.out.2.2.2.1.symm
        clear hq9 e1 e2 e3
        subst e4 e5 e6
        have K8 := Lib.hid (o8.argKey HZ.out.2.2.2.2)
        have K9 := Lib.hid (o9.argKey HZ.out.2.2.2.2)
        have HN8 : Hid (annN d ≤ 4398046511104) := by show _ ≤ _; unfold annN annM; split <;> omega
        clear o8 o9
        have q80 := mb8.cell 0
        have q81 := mb8.cell 1
        have q90 := mb9.cell 0
        have q91 := mb9.cell 1
        go_wp2_with (first | (refine wpList_store_last rfl 78 _ _ rfl _ _ #[.int .u64 (wb R9), .slice G9 n9 c9] 78 rfl rfl rfl (by exact size_ann) (by simp) (by simp [Value.oneCell']) ?_; generalize x9.alloc (.cells #[.int .u64 (wb R9), .slice G9 n9 c9] 78) = y9 at *) | fail)
        refine (hops_any K8.out K9.out HN8.out).mono ?_
        rintro e x10 ⟨he, hn⟩
        replace he : e = .returned (.bool true) := by rw [he]; simp
        subst he
        replace hb := hb.trans (hn.mono hb.size)
        clear hn
        go_wp2_with fail
        go_ret
        exact ⟨rfl, hw.trans (hb.mono hw.size)⟩
      | false =>
        have HOA := Lib.hid hoa
        have HZ := Lib.hid (ann_n d h106 hoa)
        clear h106 hoa
        refine (room_v (HD.out.below hb) HDL.out).mono ?_
        rintro e x7 ⟨rv, rfl, ar, hn⟩
        replace hb := hb.trans (hn.mono hb.size)
        clear hn
        go_wp2_with fail
        refine (getann_any d _ _ ar HM.out).mono ?_
        rintro e x8 ⟨v8, rfl, o8, hn⟩
        rw [HZ.out.1, HZ.out.2.1]
        rw [HZ.out.2.2] at o8
        obtain ⟨G8, c8, rfl⟩ := id o8.form
        replace hb := hb.trans (hn.mono hb.size)
        clear hn ar
        have hn : Below x8.heap.size x8 (x8.alloc (.cells #[.int .u64 0, .slice G8 0 c8] 78)) := (Below.refl _ _).alloc (Nat.le_refl _) _
        have mb8 := Blk.new x8 #[.int .u64 0, .slice G8 0 c8] 78
        replace hb := hb.trans (hn.mono hb.size)
        replace o8 := o8.below hn
        clear hn
        go_wp2_with (first | (refine wpList_store_last rfl 78 _ _ rfl _ _ #[.int .u64 0, .slice G8 0 c8] 78 rfl rfl rfl (by exact size_ann) (by simp) (by simp [Value.oneCell']) ?_; generalize x8.alloc (.cells #[.int .u64 0, .slice G8 0 c8] 78) = y8 at *) | fail)
        refine (rgetann_any d _ _ (HD.out.below hb) H106.out).mono ?_
        rintro e x9 ⟨R9, v9, n9, l9, rfl, o9, hq9, hn⟩
        obtain ⟨G9, c9, rfl⟩ := id o9.form
        rw [HOA.out]
        replace hb := hb.trans (hn.mono hb.size)
        replace mb8 := mb8.below hn mb8.lt
        replace o8 := o8.below hn
        have hn : Below x9.heap.size x9 (x9.alloc (.cells #[.int .u64 (wb R9), .slice G9 n9 c9] 78)) := (Below.refl _ _).alloc (Nat.le_refl _) _
        have mb9 := Blk.new x9 #[.int .u64 (wb R9), .slice G9 n9 c9] 78
        replace hb := hb.trans (hn.mono hb.size)
        replace mb8 := mb8.below hn mb8.lt
        replace o8 := o8.below hn
        replace o9 := o9.below hn
        clear hn
        have q80 := mb8.cell 0
        have q81 := mb8.cell 1
        go_wp2_with (first | (refine wpList_store_last rfl 78 _ _ rfl _ _ #[.int .u64 (wb R9), .slice G9 n9 c9] 78 rfl rfl rfl (by exact size_ann) (by simp) (by simp [Value.oneCell']) ?_; generalize x9.alloc (.cells #[.int .u64 (wb R9), .slice G9 n9 c9] 78) = y9 at *) | fail)
        go_ret
        exact ⟨rfl, hw.trans (hb.mono hw.size)⟩
    · have hi106 : ¬ (d.length : Int) = 106 := by omega
      have HZ := Lib.hid (ann_z d h106)
      clear h106
      refine (room_v (HD.out.below hb) HDL.out).mono ?_
      rintro e x7 ⟨rv, rfl, ar, hn⟩
      replace hb := hb.trans (hn.mono hb.size)
      clear hn
      go_wp2_with fail
      refine (getann_any d _ _ ar HM.out).mono ?_
      rintro e x8 ⟨v8, rfl, o8, hn⟩
      rw [HZ.out.1, HZ.out.2.1]
      rw [HZ.out.2.2] at o8
      obtain ⟨G8, c8, rfl⟩ := id o8.form
      replace hb := hb.trans (hn.mono hb.size)
      clear hn ar
      have hn : Below x8.heap.size x8 (x8.alloc (.cells #[.int .u64 0, .slice G8 0 c8] 78)) := (Below.refl _ _).alloc (Nat.le_refl _) _
      have mb8 := Blk.new x8 #[.int .u64 0, .slice G8 0 c8] 78
      replace hb := hb.trans (hn.mono hb.size)
      replace o8 := o8.below hn
      clear hn
      have q80 := mb8.cell 0
      have q81 := mb8.cell 1
      go_wp2_with (first | (refine wpList_store_last rfl 78 _ _ rfl _ _ #[.int .u64 0, .slice G8 0 c8] 78 rfl rfl rfl (by exact size_ann) (by simp) (by simp [Value.oneCell']) ?_; generalize x8.alloc (.cells #[.int .u64 0, .slice G8 0 c8] 78) = y8 at *) | fail)
      go_ret
      exact ⟨rfl, hw.trans (hb.mono hw.size)⟩
set_option maxRecDepth 100000 in
set_option maxHeartbeats 8000000 in
theorem annw_f (R : BitVec 64) (A : Option Addr) (n cap : Nat) (l b : List (BitVec 8)) (Ab : Option Addr) (cb : Nat) (w : World) (hcap : n ≤ cap) (hsz : cap * 32 ≤ 140737488351232) (hR : Rd w .u8 A l) (hl : l.length = 32 * n) (hRb : Rd w .u8 Ab b) (hcb : b.length ≤ cb) (hok : rightA R n = false) :
    Calls Try.prog 7 #[.agg #[.int .u64 (wb R), .slice A n cap], .slice Ab b.length cb] w fun e w' => e = .returned (.bool true) ∧ Below w.heap.size w w' := by
  obtain ⟨d, hd⟩ : ∃ d, d = b.take 1000 := ⟨_, rfl⟩
  have HB := Lib.hid (arg_mk hRb hcb)
  have hdl : d.length ≤ 1000 := by rw [hd, List.length_take]; omega
  have HDD := Lib.hid hd
  have HDL := Lib.hid hdl
  have HM : Hid (d.length ≤ 1048576) := by show _ ≤ _; omega
  have HOK := Lib.hid hok
  have HC := Lib.hid hcap
  have HL := Lib.hid hl
  have HN : Hid (n ≤ 4398046510976) := by show _ ≤ _; omega
  have hni : (n : Int) ≤ 4398046510976 := by omega
  have HAA : Hid ((annB R n l == annB R n l) = true) := by show _ = _; simp
  have hmk := fun wx => run_make_keys (n + 2) (by omega) wx
  rw [Int.natCast_add, show ((2 : Nat) : Int) = 2 from rfl] at hmk
  have i9 : (n : Int) < (n : Int) + 1 := by omega
  have hwr : IntKind.i64.wrap ((n : Int) + 2) = (n : Int) + 2 := IntWalk.i64_in _ (by omega)
  have hnk := fun wx => neq_key k9 k9 rfl rfl wx
  rw [show (!(k9 == k9)) = false by simp] at hnk
  have mb := Blk.new w #[.int .u64 (wb R), .slice A n cap] 78
  have hw0 : Below w.heap.size w (w.alloc (.cells #[.int .u64 (wb R), .slice A n cap] 78)) := (Below.refl _ _).alloc (Nat.le_refl _) _
  clear hcap hsz hl hRb hcb hok hd hdl
  go_enter Try.func7, Try.ntmps7
  go_wp2_with fail
  refine (wakes_any _).mono ?_
  rintro e w1 ⟨rfl, hn⟩
  have hw := hw0.trans (hn.mono hw0.size)
  replace mb := mb.below hn mb.lt
  have hs : w.heap.size < w1.heap.size := mb.lt
  have HR := Lib.hid (hR.below hw)
  clear hn hw0 hR
  go_wp2_with fail
  refine (cut_v (HB.out.below hw)).mono ?_
  rintro e w' ⟨u0, rfl, a0, rfl⟩
  rw [← HDD.out] at a0
  obtain ⟨A0, c0, rfl, -, -⟩ := id a0
  have HD := Lib.hid a0
  clear a0
  go_wp2_with fail
  refine mix_plan (fun w' => Blk w' w.heap.size #[.int .u64 (wb R), .slice A n cap] 78) (.step 0 (.step 1 (.step 2 (.step 3 (.step 5 (.step 6 (.step 8 (.fork 4 9 (.fork 7 9 (.step 9 (.step 10 (.step 11 (.done)))) (.step 7 (.step 10 (.step 11 (.done))))) (.step 4 (.step 7 (.step 10 (.step 11 (.done))))))))))))) [4, 7, 9, 10] [1, 6] [] (by kernel_rfl) (by kernel_rfl) (fun d _ _ _ _ h => by cases d <;> exact h) mb.drew ?_
  replace mb := mb.drew
  have hb := (Below.refl w1.heap.size w1).drew
  generalize w1.drew = x0 at *
  repeat (refine mix_pure rfl rfl (fun K hK => ?_); go_simp; refine hK _ ?_; clear hK K)
  apply share3 (A := fun v4 v7 v9 wx => Below w1.heap.size w1 wx ∧ Blk wx w.heap.size #[.int .u64 (wb R), .slice A n cap] 78 ∧ KeyS wx v9 k9 ∧ OwnK wx w1.heap.size v7 n l)
  · intro hS1_4_6_7_8_9
    apply share2 (A := fun v4 v9 wx => Below w1.heap.size w1 wx ∧ Blk wx w.heap.size #[.int .u64 (wb R), .slice A n cap] 78 ∧ OwnK wx w1.heap.size v4 0 [] ∧ KeyA wx v9 v4 k9)
    · intro hS1_4_6_8_9
      refine mix_read (.slice A n cap) rfl rfl rfl rfl (fun w' hS => ?_) ?_
      · have k5 : w'.cell? ⟨w.heap.size, 1, none⟩ = some (.slice A n cap) := hS.cell 1
        go_simp
      repeat (refine mix_pure rfl rfl (fun K hK => ?_); go_simp; refine hK _ ?_; clear hK K)
      refine mix_read (.slice A n cap) rfl rfl rfl rfl (fun w' hS => ?_) ?_
      · have k5 : w'.cell? ⟨w.heap.size, 1, none⟩ = some (.slice A n cap) := hS.cell 1
        go_simp
      refine mix_build rfl rfl rfl 26 _ rfl (.agg (encs .u8 k9)) #[(0, .int .u8 9)] build_k9 (by simp [Act.eval]) ?_
      refine mix_fork rfl rfl (fun K hK => ?_) (fun K hK => ?_)
      · go_simp
        have hn : Below x0.heap.size x0 (x0.alloc (.cells (roomK (n + 2)) 26)) := (Below.refl _ _).alloc (Nat.le_refl _) _
        have o4 : OwnK (x0.alloc (.cells (roomK (n + 2)) 26)) w1.heap.size (.slice (some ⟨x0.heap.size, 0, none⟩) 0 (n + 2)) 0 [] := World.ownsRow_made _ _ _ hb.size (by have := HN.out; unfold maxLen; omega) (by simp [roomK, madeCells])
        generalize x0.alloc (.cells (roomK (n + 2)) 26) = x1 at *
        generalize Value.slice (some ⟨x0.heap.size, 0, none⟩) 0 (n + 2) = v4 at *
        replace hb := hb.trans (hn.mono hb.size)
        replace mb := mb.below hn mb.lt
        refine hK _ _ (fun _ _ => mb) ?_
        clear hK K hn
        refine mix_fork rfl rfl (fun K hK => ?_) (fun K hK => ?_)
        · skip
          refine step_appks rfl _ _ rfl w1.heap.size _ 0 [] rfl o4 A n cap l rfl (HR.out.below hb) HL.out (by have := HN.out; omega) hb.size (fun v7 x2 o7 hgr hb7 => ?_)
          rw [Nat.zero_add, List.nil_append] at o7
          replace mb := mb.below hb7 hs
          replace hb := hb.trans hb7
          clear hb7 hgr
          refine hK _ _ (fun _ _ => mb) ?_
          clear hK K
          try clear o4
          refine mix_eff rfl rfl (fun K hK => ?_)
          refine step_bslice_key rfl _ rfl k9 rfl rfl ?_
          skip
          have hn : Below x2.heap.size x2 (x2.alloc (.cells (encs .u8 k9) 26)) := (Below.refl _ _).alloc (Nat.le_refl _) _
          have t9 : KeyS (x2.alloc (.cells (encs .u8 k9) 26)) (.slice (some ⟨x2.heap.size, 0, none⟩) 1 1) k9 := KeyS.new _ _
          generalize x2.alloc (.cells (encs .u8 k9) 26) = x3 at *
          generalize Value.slice (some ⟨x2.heap.size, 0, none⟩) 1 1 = v9 at *
          replace hb := hb.trans (hn.mono hb.size)
          replace mb := mb.below hn mb.lt
          replace o7 := o7.below hn
          refine hK _ _ (fun _ _ => mb) ?_
          clear hK K hn
          exact hS1_4_6_7_8_9 v4 v7 v9 x3 ⟨hb, mb, t9, o7⟩
        · refine step_bslice_key rfl _ rfl k9 rfl rfl ?_
          skip
          have hn : Below x1.heap.size x1 (x1.alloc (.cells (encs .u8 k9) 26)) := (Below.refl _ _).alloc (Nat.le_refl _) _
          have s9 : KeyA (x1.alloc (.cells (encs .u8 k9) 26)) (.slice (some ⟨x1.heap.size, 0, none⟩) 1 1) v4 k9 := KeyA.new o4 _
          generalize x1.alloc (.cells (encs .u8 k9) 26) = x4 at *
          generalize Value.slice (some ⟨x1.heap.size, 0, none⟩) 1 1 = v9 at *
          replace hb := hb.trans (hn.mono hb.size)
          replace mb := mb.below hn mb.lt
          replace o4 := o4.below hn
          refine hK _ _ (fun _ _ => mb) ?_
          clear hK K hn
          exact hS1_4_6_8_9 v4 v9 x4 ⟨hb, mb, o4, s9⟩
      · refine step_bslice_key rfl _ rfl k9 rfl rfl ?_
        skip
        have hn : Below x0.heap.size x0 (x0.alloc (.cells (encs .u8 k9) 26)) := (Below.refl _ _).alloc (Nat.le_refl _) _
        have e9 : KeyS (x0.alloc (.cells (encs .u8 k9) 26)) (.slice (some ⟨x0.heap.size, 0, none⟩) 1 1) k9 := KeyS.new _ _
        generalize x0.alloc (.cells (encs .u8 k9) 26) = x5 at *
        generalize Value.slice (some ⟨x0.heap.size, 0, none⟩) 1 1 = v9 at *
        replace hb := hb.trans (hn.mono hb.size)
        replace mb := mb.below hn mb.lt
        refine hK _ _ (fun _ _ => mb) ?_
        clear hK K hn
        refine mix_eff rfl rfl (fun K hK => ?_)
        go_simp
        have hn : Below x5.heap.size x5 (x5.alloc (.cells (roomK (n + 2)) 26)) := (Below.refl _ _).alloc (Nat.le_refl _) _
        have o4 : OwnK (x5.alloc (.cells (roomK (n + 2)) 26)) w1.heap.size (.slice (some ⟨x5.heap.size, 0, none⟩) 0 (n + 2)) 0 [] := World.ownsRow_made _ _ _ hb.size (by have := HN.out; unfold maxLen; omega) (by simp [roomK, madeCells])
        have s9 : KeyA (x5.alloc (.cells (roomK (n + 2)) 26)) v9 (.slice (some ⟨x5.heap.size, 0, none⟩) 0 (n + 2)) k9 := e9.apart hn
        clear e9
        generalize x5.alloc (.cells (roomK (n + 2)) 26) = x6 at *
        generalize Value.slice (some ⟨x5.heap.size, 0, none⟩) 0 (n + 2) = v4 at *
        replace hb := hb.trans (hn.mono hb.size)
        replace mb := mb.below hn mb.lt
        refine hK _ _ (fun _ _ => mb) ?_
        clear hK K hn
        try clear e9
        exact hS1_4_6_8_9 v4 v9 x6 ⟨hb, mb, o4, s9⟩
    · intro v4 v9 wx hA
      obtain ⟨hb, mb, o4, s9⟩ := hA
      refine mix_eff rfl rfl (fun K hK => ?_)
      skip
      refine step_appks rfl _ _ rfl w1.heap.size _ 0 [] rfl o4 A n cap l rfl (HR.out.below hb) HL.out (by have := HN.out; omega) hb.size (fun v7 x7 o7 hgr hb7 => ?_)
      rw [Nat.zero_add, List.nil_append] at o7
      replace mb := mb.below hb7 hs
      replace hb := hb.trans hb7
      have t9 := s9.grown hgr
      clear s9
      clear hb7 hgr
      refine hK _ _ (fun _ _ => mb) ?_
      clear hK K
      try clear o4 s9
      exact hS1_4_6_7_8_9 v4 v7 v9 x7 ⟨hb, mb, t9, o7⟩
  · intro v4 v7 v9 wx hA
    obtain ⟨hb, mb, t9, o7⟩ := hA
    refine mix_eff rfl rfl (fun K hK => ?_)
    obtain ⟨g9, rfl, B9⟩ := id t9
    skip
    refine step_appk1 rfl _ _ rfl w1.heap.size _ n l rfl o7 g9 k9 rfl rfl B9 (by have := HN.out; omega) hb.size (fun v10 x8 o10 hgr hb10 => ?_)
    replace mb := mb.below hb10 hs
    replace hb := hb.trans hb10
    clear hb10 hgr B9
    refine hK _ _ (fun _ _ => mb) ?_
    clear hK K
    try clear t9 o7
    repeat (refine mix_pure rfl rfl (fun K hK => ?_); go_simp; refine hK _ ?_; clear hK K)
    refine mix_nil ?_
    obtain ⟨G, c10, rfl⟩ := id o10.form
    obtain ⟨hc10, hR10⟩ := ownk_rd o10
    have hak := argk_cut hR10 hc10 HL.out
    have hsl := fun wx => run_slice_to (P := Try.prog) keysT G (n + 1) c10 (n : Int) .i64 (by omega) (by omega) wx
    rw [cutA_zero, Int.toNat_natCast] at hsl
    obtain ⟨g10, f10, rfl, hk9⟩ := last_key hR10 HL.out
    clear o10 hR10
    have hbu := build_ann2 R (some ⟨g10, f10, none⟩) n c10
    go_wp2_with fail
    refine mix_start (fun w' => Blk w' w.heap.size #[.int .u64 (wb R), .slice A n cap] 78) (List.range 14) [8] [1, 4] [] (by kernel_rfl) (by kernel_rfl) (fun d _ _ _ _ h => by cases d <;> exact h) mb.drew ?_
    replace mb := mb.drew
    replace hb := hb.drew
    replace hak : ArgK x8.drew _ _ _ := hak
    replace hk9 : Rd x8.drew _ _ _ := hk9
    generalize x8.drew = y1 at *
    repeat (refine mix_pure rfl rfl (fun K hK => ?_); go_simp; refine hK _ ?_; clear hK K)
    refine mix_read (.int .u64 (wb R)) rfl rfl rfl rfl (fun w' hS => ?_) ?_
    · have k5 : w'.cell? ⟨w.heap.size, 0, none⟩ = some (.int .u64 (wb R)) := hS.cell 0
      go_simp
    repeat (refine mix_pure rfl rfl (fun K hK => ?_); go_simp; refine hK _ ?_; clear hK K)
    refine mix_read (.slice A n cap) rfl rfl rfl rfl (fun w' hS => ?_) ?_
    · have k5 : w'.cell? ⟨w.heap.size, 1, none⟩ = some (.slice A n cap) := hS.cell 1
      go_simp
    repeat (refine mix_pure rfl rfl (fun K hK => ?_); go_simp; refine hK _ ?_; clear hK K)
    refine mix_eff rfl rfl (fun K hK => ?_)
    go_simp
    refine (putann_any R n _ l y1 hak (by have := HN.out; omega)).mono ?_
    rintro e y2 ⟨h1, hn⟩
    rw [if_neg (by rw [HOK.out]; decide)] at h1
    subst h1
    replace hb := hb.trans (hn.mono hb.size)
    replace mb := mb.below hn mb.lt
    replace hak := hak.below hn
    replace hk9 := hk9.below hn
    refine hK _ _ (fun _ _ => mb) ?_
    clear hK K hn
    repeat (refine mix_pure rfl rfl (fun K hK => ?_); go_simp; refine hK _ ?_; clear hK K)
    refine mix_nil ?_
    go_wp2_with fail
    refine mix_start (fun w' => Blk w' w.heap.size #[.int .u64 (wb R), .slice A n cap] 78 ∧ Rd w' .u8 (some ⟨g10, f10 + n * 32, none⟩) k9) (List.range 19) [7] [2, 6, 12, 15] [] (by kernel_rfl) (by kernel_rfl) (fun d _ _ _ _ h => by cases d <;> exact h) ⟨mb.drew, hk9⟩ ?_
    replace mb := mb.drew
    replace hb := hb.drew
    replace hak : ArgK y2.drew _ _ _ := hak
    replace hk9 : Rd y2.drew _ _ _ := hk9
    generalize y2.drew = y3 at *
    repeat (refine mix_pure rfl rfl (fun K hK => ?_); go_simp; refine hK _ ?_; clear hK K)
    refine mix_read (.slice A n cap) rfl rfl rfl rfl (fun w' hS => ?_) ?_
    · have k5 : w'.cell? ⟨w.heap.size, 1, none⟩ = some (.slice A n cap) := hS.1.cell 1
      go_simp
    repeat (refine mix_pure rfl rfl (fun K hK => ?_); go_simp; refine hK _ ?_; clear hK K)
    refine mix_read (.slice A n cap) rfl rfl rfl rfl (fun w' hS => ?_) ?_
    · have k5 : w'.cell? ⟨w.heap.size, 1, none⟩ = some (.slice A n cap) := hS.1.cell 1
      go_simp
    repeat (refine mix_pure rfl rfl (fun K hK => ?_); go_simp; refine hK _ ?_; clear hK K)
    refine mix_eff rfl rfl (fun K hK => ?_)
    go_simp
    refine (hops_any hak (⟨A, cap, rfl, HC.out, HR.out.below hb, HL.out⟩ : ArgK y3 (.slice A n cap) n l) (by have := HN.out; omega)).mono ?_
    rintro e y4 ⟨he, hn⟩
    replace he : e = .returned (.bool true) := by rw [he]; simp
    subst he
    replace hb := hb.trans (hn.mono hb.size)
    replace mb := mb.below hn mb.lt
    replace hk9 := hk9.below hn
    refine hK _ _ (fun _ _ => ⟨mb, hk9⟩) ?_
    clear hK K hn hak
    repeat (refine mix_pure rfl rfl (fun K hK => ?_); go_simp; refine hK _ ?_; clear hK K)
    refine mix_read (.slice A n cap) rfl rfl rfl rfl (fun w' hS => ?_) ?_
    · have k5 : w'.cell? ⟨w.heap.size, 1, none⟩ = some (.slice A n cap) := hS.1.cell 1
      go_simp
    repeat (refine mix_pure rfl rfl (fun K hK => ?_); go_simp; refine hK _ ?_; clear hK K)
    refine mix_load_rd rfl rfl rfl rfl 26 _ rfl g10 (f10 + n * 32) rfl .u8 k9 (fun w' hS => hS.2) _ Try.underlying26 rfl (by rw [show k9.length = 32 from rfl]; exact sizeKey) ?_
    refine mix_build rfl rfl rfl 26 _ rfl (.agg (encs .u8 k9)) #[(0, .int .u8 9)] build_k9 (by simp [Act.eval]) ?_
    repeat (refine mix_pure rfl rfl (fun K hK => ?_); go_simp; refine hK _ ?_; clear hK K)
    refine mix_nil ?_
    clear hk9
    go_wp2_with (first | (refine wpList_load_row rfl 78 _ rfl w.heap.size rfl 78 #[.int .u64 (wb R), .slice A n cap] _ _ mb Try.underlying78 rfl (by exact size_ann) ?_) | fail)
    refine (rright_any3 R A n cap _).mono ?_
    rintro e y5 ⟨rfl, hn⟩
    rw [HOK.out]
    replace hb := hb.trans (hn.mono hb.size)
    replace mb := mb.below hn mb.lt
    clear hn
    clear mb
    go_wp2_with fail
    by_cases h106 : d.length = 106
    · have H106 := Lib.hid h106
      rw [h106] at HD ⊢
      cases hoa : okA d with
      | true =>
        have HOA := Lib.hid hoa
        have HZ := Lib.hid (ann_o d h106 hoa)
        clear h106 hoa
        refine (room_v (HD.out.below hb) HDL.out).mono ?_
        rintro e x7 ⟨rv, rfl, ar, hn⟩
        replace hb := hb.trans (hn.mono hb.size)
        clear hn
        go_wp2_with fail
        refine (getann_any d _ _ ar HM.out).mono ?_
        rintro e x8 ⟨v8, rfl, o8, hn⟩
        obtain ⟨G8, c8, rfl⟩ := id o8.form
        replace hb := hb.trans (hn.mono hb.size)
        clear hn ar
        have hn : Below x8.heap.size x8 (x8.alloc (.cells #[.int .u64 (wb (annR d)), .slice G8 (annN d) c8] 78)) := (Below.refl _ _).alloc (Nat.le_refl _) _
        have mb8 := Blk.new x8 #[.int .u64 (wb (annR d)), .slice G8 (annN d) c8] 78
        replace hb := hb.trans (hn.mono hb.size)
        replace o8 := o8.below hn
        clear hn
        have hE : annE d = 0 := HZ.out.1
        go_wp2_with (first | (refine wpList_store_last rfl 78 _ _ rfl _ _ #[.int .u64 (wb (annR d)), .slice G8 (annN d) c8] 78 rfl rfl rfl (by exact size_ann) (by simp) (by simp [Value.oneCell']) ?_; generalize x8.alloc (.cells #[.int .u64 (wb (annR d)), .slice G8 (annN d) c8] 78) = y8 at *) | fail)
        refine (rgetann_any d _ _ (HD.out.below hb) H106.out).mono ?_
        rintro e x9 ⟨R9, v9, n9, l9, rfl, o9, hq9, hn⟩
        obtain ⟨G9, c9, rfl⟩ := id o9.form
        rw [HOA.out]
        replace hb := hb.trans (hn.mono hb.size)
        replace mb8 := mb8.below hn mb8.lt
        replace o8 := o8.below hn
        have hn : Below x9.heap.size x9 (x9.alloc (.cells #[.int .u64 (wb R9), .slice G9 n9 c9] 78)) := (Below.refl _ _).alloc (Nat.le_refl _) _
        have mb9 := Blk.new x9 #[.int .u64 (wb R9), .slice G9 n9 c9] 78
        replace hb := hb.trans (hn.mono hb.size)
        replace mb8 := mb8.below hn mb8.lt
        replace o8 := o8.below hn
        replace o9 := o9.below hn
        clear hn
        obtain ⟨e1, e2, e3⟩ := hq9 HOA.out
        have e4 : R9 = annR d := e1.trans HZ.out.2.1.symm
        have e5 : n9 = annN d := e2.trans HZ.out.2.2.1.symm
        have e6 : l9 = annL d := e3.trans HZ.out.2.2.2.1.symm
        clear hq9 e1 e2 e3
        subst e4 e5 e6
        have K8 := Lib.hid (o8.argKey HZ.out.2.2.2.2)
        have K9 := Lib.hid (o9.argKey HZ.out.2.2.2.2)
        have HN8 : Hid (annN d ≤ 4398046511104) := by show _ ≤ _; unfold annN annM; split <;> omega
        clear o8 o9
        have q80 := mb8.cell 0
        have q81 := mb8.cell 1
        have q90 := mb9.cell 0
        have q91 := mb9.cell 1
        go_wp2_with (first | (refine wpList_store_last rfl 78 _ _ rfl _ _ #[.int .u64 (wb R9), .slice G9 n9 c9] 78 rfl rfl rfl (by exact size_ann) (by simp) (by simp [Value.oneCell']) ?_; generalize x9.alloc (.cells #[.int .u64 (wb R9), .slice G9 n9 c9] 78) = y9 at *) | fail)
        refine (hops_any K8.out K9.out HN8.out).mono ?_
        rintro e x10 ⟨he, hn⟩
        replace he : e = .returned (.bool true) := by rw [he]; simp
        subst he
        replace hb := hb.trans (hn.mono hb.size)
        clear hn
        go_wp2_with fail
        go_ret
        exact ⟨rfl, hw.trans (hb.mono hw.size)⟩
      | false =>
        have HOA := Lib.hid hoa
        have HZ := Lib.hid (ann_n d h106 hoa)
        clear h106 hoa
        refine (room_v (HD.out.below hb) HDL.out).mono ?_
        rintro e x7 ⟨rv, rfl, ar, hn⟩
        replace hb := hb.trans (hn.mono hb.size)
        clear hn
        go_wp2_with fail
        refine (getann_any d _ _ ar HM.out).mono ?_
        rintro e x8 ⟨v8, rfl, o8, hn⟩
        rw [HZ.out.1, HZ.out.2.1]
        rw [HZ.out.2.2] at o8
        obtain ⟨G8, c8, rfl⟩ := id o8.form
        replace hb := hb.trans (hn.mono hb.size)
        clear hn ar
        have hn : Below x8.heap.size x8 (x8.alloc (.cells #[.int .u64 0, .slice G8 0 c8] 78)) := (Below.refl _ _).alloc (Nat.le_refl _) _
        have mb8 := Blk.new x8 #[.int .u64 0, .slice G8 0 c8] 78
        replace hb := hb.trans (hn.mono hb.size)
        replace o8 := o8.below hn
        clear hn
        go_wp2_with (first | (refine wpList_store_last rfl 78 _ _ rfl _ _ #[.int .u64 0, .slice G8 0 c8] 78 rfl rfl rfl (by exact size_ann) (by simp) (by simp [Value.oneCell']) ?_; generalize x8.alloc (.cells #[.int .u64 0, .slice G8 0 c8] 78) = y8 at *) | fail)
        refine (rgetann_any d _ _ (HD.out.below hb) H106.out).mono ?_
        rintro e x9 ⟨R9, v9, n9, l9, rfl, o9, hq9, hn⟩
        obtain ⟨G9, c9, rfl⟩ := id o9.form
        rw [HOA.out]
        replace hb := hb.trans (hn.mono hb.size)
        replace mb8 := mb8.below hn mb8.lt
        replace o8 := o8.below hn
        have hn : Below x9.heap.size x9 (x9.alloc (.cells #[.int .u64 (wb R9), .slice G9 n9 c9] 78)) := (Below.refl _ _).alloc (Nat.le_refl _) _
        have mb9 := Blk.new x9 #[.int .u64 (wb R9), .slice G9 n9 c9] 78
        replace hb := hb.trans (hn.mono hb.size)
        replace mb8 := mb8.below hn mb8.lt
        replace o8 := o8.below hn
        replace o9 := o9.below hn
        clear hn
        have q80 := mb8.cell 0
        have q81 := mb8.cell 1
        go_wp2_with (first | (refine wpList_store_last rfl 78 _ _ rfl _ _ #[.int .u64 (wb R9), .slice G9 n9 c9] 78 rfl rfl rfl (by exact size_ann) (by simp) (by simp [Value.oneCell']) ?_; generalize x9.alloc (.cells #[.int .u64 (wb R9), .slice G9 n9 c9] 78) = y9 at *) | fail)
        go_ret
        exact ⟨rfl, hw.trans (hb.mono hw.size)⟩
    · have hi106 : ¬ (d.length : Int) = 106 := by omega
      have HZ := Lib.hid (ann_z d h106)
      clear h106
      refine (room_v (HD.out.below hb) HDL.out).mono ?_
      rintro e x7 ⟨rv, rfl, ar, hn⟩
      replace hb := hb.trans (hn.mono hb.size)
      clear hn
      go_wp2_with fail
      refine (getann_any d _ _ ar HM.out).mono ?_
      rintro e x8 ⟨v8, rfl, o8, hn⟩
      rw [HZ.out.1, HZ.out.2.1]
      rw [HZ.out.2.2] at o8
      obtain ⟨G8, c8, rfl⟩ := id o8.form
      replace hb := hb.trans (hn.mono hb.size)
      clear hn ar
      have hn : Below x8.heap.size x8 (x8.alloc (.cells #[.int .u64 0, .slice G8 0 c8] 78)) := (Below.refl _ _).alloc (Nat.le_refl _) _
      have mb8 := Blk.new x8 #[.int .u64 0, .slice G8 0 c8] 78
      replace hb := hb.trans (hn.mono hb.size)
      replace o8 := o8.below hn
      clear hn
      have q80 := mb8.cell 0
      have q81 := mb8.cell 1
      go_wp2_with (first | (refine wpList_store_last rfl 78 _ _ rfl _ _ #[.int .u64 0, .slice G8 0 c8] 78 rfl rfl rfl (by exact size_ann) (by simp) (by simp [Value.oneCell']) ?_; generalize x8.alloc (.cells #[.int .u64 0, .slice G8 0 c8] 78) = y8 at *) | fail)
      go_ret
      exact ⟨rfl, hw.trans (hb.mono hw.size)⟩
theorem announces_walk (R : BitVec 64) (A : Option Addr) (n cap : Nat) (l b : List (BitVec 8)) (Ab : Option Addr) (cb : Nat) (w : World) (hcap : n ≤ cap) (hsz : cap * 32 ≤ 140737488351232) (hR : Rd w .u8 A l) (hl : l.length = 32 * n) (hRb : Rd w .u8 Ab b) (hcb : b.length ≤ cb) :
    Calls Try.prog 7 #[.agg #[.int .u64 (wb R), .slice A n cap], .slice Ab b.length cb] w fun e w' => e = .returned (.bool true) ∧ Below w.heap.size w w' := by
  cases hok : rightA R n with
  | true => exact annw_t R A n cap l b Ab cb w hcap hsz hR hl hRb hcb hok
  | false => exact annw_f R A n cap l b Ab cb w hcap hsz hR hl hRb hcb hok
end Go.Proofs.Ytjnbgoiaocpcjaa
