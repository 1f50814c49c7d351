/- Which packets may be, up and down, and their bytes (printed by genpk.py). -/
import Derived.Test.YtjnbgoiaocpcjaaFrPutU
import Derived.Test.YtjnbgoiaocpcjaaFrHops
import Derived.Test.YtjnbgoiaocpcjaaRoomCut
import Derived.Test.YtjnbgoiaocpcjaaWakes
import Derived.Test.YtjnbgoiaocpcjaaShr
namespace Go.Proofs.Ytjnbgoiaocpcjaa
open Go.RowKit
set_option linter.unusedVariables false
set_option linter.unusedSimpArgs false
theorem cut_at (A : Option Addr) (len cap : Nat) (h : len ≤ cap) (w : World) :
    Calls Try.prog 14 #[.slice A len cap] w fun e w' => e = .returned (.slice A (min len 1000) cap) ∧ w = w' := by
  have hs1 := fun wx => run_slice_to (P := Try.prog) bytesT A len cap (len : Int) .i64 (by omega) (by omega) wx
  have hs2 := fun (h : 1000 ≤ cap) wx => run_slice_to (P := Try.prog) bytesT A len cap 1000 .i64 (by omega) (by omega) wx
  rw [cutA_zero, Int.toNat_natCast] at hs1
  rw [cutA_zero] at hs2
  have e1 : Hid (1000 ≤ (len : Int) → min len 1000 = 1000) := fun h => by omega
  have e2 : Hid ((len : Int) ≤ 1000 → min len 1000 = len) := fun h => by omega
  generalize min len 1000 = m at *
  go_enter Try.func14, Try.ntmps14
  go_wp2_with fail
  · have hh : 1000 ≤ (len : Int) := by omega
    go_ret
    exact ⟨by rw [e1.out hh]; rfl, rfl⟩
  · have hh : (len : Int) ≤ 1000 := by omega
    go_ret
    exact ⟨by rw [e2.out hh]; rfl, rfl⟩
theorem putup_ok {c s : Int} {r : BitVec 64} {v : Value} {b : List (BitVec 8)} {w : World} (h : (endsB c s r && onionB b.length) = true) (hb : Arg w v b) (hl : b.length ≤ 1048576) :
    Calls Try.prog 29 #[.agg #[.int .i64 c, .int .i64 s, .int .u64 (wb r), v]] w fun e w' => (∃ v', e = .returned (.tuple #[v', .int .i64 0]) ∧ OwnB w' w.heap.size v' (packB 2 c s r b)) ∧ Below w.heap.size w w' := by
  refine (putup_any c s r v b w hb hl).mono ?_
  rintro e w' ⟨h1, h2⟩
  rw [if_pos h] at h1
  exact ⟨h1, h2⟩
theorem putup_no {c s : Int} {r : BitVec 64} {v : Value} {b : List (BitVec 8)} {w : World} (h : (endsB c s r && onionB b.length) = false) (hb : Arg w v b) (hl : b.length ≤ 1048576) :
    Calls Try.prog 29 #[.agg #[.int .i64 c, .int .i64 s, .int .u64 (wb r), v]] w fun e w' => e = .returned (.tuple #[.slice none 0 0, .int .i64 241]) ∧ Below w.heap.size w w' := by
  refine (putup_any c s r v b w hb hl).mono ?_
  rintro e w' ⟨h1, h2⟩
  rw [if_neg (by rw [h]; decide)] at h1
  exact ⟨h1, h2⟩
theorem putdown_ok {c s : Int} {r : BitVec 64} {v : Value} {b : List (BitVec 8)} {w : World} (h : (endsB c s r && replyB b.length) = true) (hb : Arg w v b) (hl : b.length ≤ 1048576) :
    Calls Try.prog 30 #[.agg #[.int .i64 c, .int .i64 s, .int .u64 (wb r), v]] w fun e w' => (∃ v', e = .returned (.tuple #[v', .int .i64 0]) ∧ OwnB w' w.heap.size v' (packB 3 c s r b)) ∧ Below w.heap.size w w' := by
  refine (putdown_any c s r v b w hb hl).mono ?_
  rintro e w' ⟨h1, h2⟩
  rw [if_pos h] at h1
  exact ⟨h1, h2⟩
theorem putdown_no {c s : Int} {r : BitVec 64} {v : Value} {b : List (BitVec 8)} {w : World} (h : (endsB c s r && replyB b.length) = false) (hb : Arg w v b) (hl : b.length ≤ 1048576) :
    Calls Try.prog 30 #[.agg #[.int .i64 c, .int .i64 s, .int .u64 (wb r), v]] w fun e w' => e = .returned (.tuple #[.slice none 0 0, .int .i64 241]) ∧ Below w.heap.size w w' := by
  refine (putdown_any c s r v b w hb hl).mono ?_
  rintro e w' ⟨h1, h2⟩
  rw [if_neg (by rw [h]; decide)] at h1
  exact ⟨h1, h2⟩
theorem build_up (c s : Int) (x : BitVec 64) (A : Option Addr) (n cap : Nat) (w : World) : (Instr.build 57 #[(0, .int .i64 c), (1, .int .i64 s), (2, .int .u64 (wb x)), (3, .slice A n cap)]).run Try.prog w = .ok (.agg #[.int .i64 c, .int .i64 s, .int .u64 (wb x), .slice A n cap]) w := by kernel_rfl
theorem build_down (c s : Int) (x : BitVec 64) (A : Option Addr) (n cap : Nat) (w : World) : (Instr.build 59 #[(0, .int .i64 c), (1, .int .i64 s), (2, .int .u64 (wb x)), (3, .slice A n cap)]).run Try.prog w = .ok (.agg #[.int .i64 c, .int .i64 s, .int .u64 (wb x), .slice A n cap]) w := by kernel_rfl
set_option maxRecDepth 100000 in
set_option maxHeartbeats 16000000 in
theorem packets_walk (a1 b1 : Int) (x1 : BitVec 64) (A1 : Option Addr) (c1 : Nat) (l1 : List (BitVec 8)) (a2 b2 : Int) (x2 : BitVec 64) (A2 : Option Addr) (c2 : Nat) (l2 : List (BitVec 8)) (w : World)
    (hc1 : l1.length ≤ c1) (hR1 : Rd w .u8 A1 l1) (hc2 : l2.length ≤ c2) (hR2 : Rd w .u8 A2 l2) :
    Calls Try.prog 5 #[.agg #[.int .i64 a1, .int .i64 b1, .int .u64 (wb x1), .slice A1 l1.length c1], .agg #[.int .i64 a2, .int .i64 b2, .int .u64 (wb x2), .slice A2 l2.length c2]] w fun e w' => e = .returned (.bool true) ∧ Below w.heap.size w w' := by
  obtain ⟨q1, hn1⟩ : ∃ q1, q1 = min l1.length 1000 := ⟨_, rfl⟩
  obtain ⟨q2, hn2⟩ : ∃ q2, q2 = min l2.length 1000 := ⟨_, rfl⟩
  have Hl1n : Hid ((l1.take 1000).length = q1) := by show _ = _; rw [List.length_take, hn1]; omega
  have Hl2n : Hid ((l2.take 1000).length = q2) := by show _ = _; rw [List.length_take, hn2]; omega
  have Hl1 : Hid (∀ wx, Below w.heap.size w wx → Arg wx (.slice A1 q1 c1) (l1.take 1000)) := fun wx hb => arg_of' (by have := rd_cut (hR1.below hb) 0 1000 c1 hc1; rwa [cutA_zero, List.drop_zero] at this) Hl1n.out (by omega)
  have Hl2 : Hid (∀ wx, Below w.heap.size w wx → Arg wx (.slice A2 q2 c2) (l2.take 1000)) := fun wx hb => arg_of' (by have := rd_cut (hR2.below hb) 0 1000 c2 hc2; rwa [cutA_zero, List.drop_zero] at this) Hl2n.out (by omega)
  have m2 : Blk ((w.alloc (.cells #[.int .i64 a1, .int .i64 b1, .int .u64 (wb x1), .slice A1 l1.length c1] 57)).alloc (.cells #[.int .i64 a2, .int .i64 b2, .int .u64 (wb x2), .slice A2 l2.length c2] 59)) w.heap.size #[.int .i64 a1, .int .i64 b1, .int .u64 (wb x1), .slice A1 l1.length c1] 57 := (Blk.new _ _ _).alloc _
  have m3 : Blk ((w.alloc (.cells #[.int .i64 a1, .int .i64 b1, .int .u64 (wb x1), .slice A1 l1.length c1] 57)).alloc (.cells #[.int .i64 a2, .int .i64 b2, .int .u64 (wb x2), .slice A2 l2.length c2] 59)) (w.heap.size + 1) #[.int .i64 a2, .int .i64 b2, .int .u64 (wb x2), .slice A2 l2.length c2] 59 := Blk.new_at _ _ _ _ (by simp)
  have hb : Below w.heap.size w ((w.alloc (.cells #[.int .i64 a1, .int .i64 b1, .int .u64 (wb x1), .slice A1 l1.length c1] 57)).alloc (.cells #[.int .i64 a2, .int .i64 b2, .int .u64 (wb x2), .slice A2 l2.length c2] 59)) := ((Below.refl _ _).alloc (Nat.le_refl _) _).alloc (by simp) _
  have HN1 := Lib.hid hn1
  have HQ1 : Hid (q1 ≤ 1000) := by show _ ≤ _; omega
  have HQ2 : Hid (q2 ≤ 1000) := by show _ ≤ _; omega
  have HN2 := Lib.hid hn2
  clear hR1 hR2 hn1 hn2
  have cut1 := Lib.hid (cut_at A1 l1.length c1 hc1)
  have cut2 := Lib.hid (cut_at A2 l2.length c2 hc2)
  rw [← HN1.out] at cut1
  rw [← HN2.out] at cut2
  go_enter Try.func5, Try.ntmps5
  go_wp2_with fail
  refine (wakes_any _).mono ?_
  rintro e w1 ⟨rfl, hn⟩
  replace m2 := m2.below hn m2.lt
  replace m3 := m3.below hn m3.lt
  replace hb := hb.trans (hn.mono hb.size)
  clear hn
  go_wp2_with fail
  refine mix_plan (fun _ => True) (.step 0 (.step 3 (.fork 1 4 (.fork 2 4 (.step 6 (.step 4 (.step 5 (.step 7 (.step 8 (.step 9 (.done))))))) (.step 2 (.step 6 (.step 5 (.step 7 (.step 8 (.step 9 (.done)))))))) (.step 1 (.step 2 (.step 6 (.step 5 (.step 7 (.step 8 (.step 9 (.done))))))))))) [1, 2, 4, 5, 7, 9] [] [] (by kernel_rfl) (by kernel_rfl) (fun d _ _ _ _ h => by cases d <;> exact h) trivial ?_
  replace m2 := m2.drew
  replace m3 := m3.drew
  replace hb := hb.drew
  generalize w1.drew = z0 at *
  repeat (refine mix_pure rfl rfl (fun K hK => ?_); go_simp; refine hK _ ?_; clear hK K)
  apply share0 (A := fun wx => Below w.heap.size w wx ∧ Blk wx w.heap.size #[.int .i64 a1, .int .i64 b1, .int .u64 (wb x1), .slice A1 l1.length c1] 57 ∧ Blk wx (w.heap.size + 1) #[.int .i64 a2, .int .i64 b2, .int .u64 (wb x2), .slice A2 l2.length c2] 59)
  · intro hS1_2_4
    apply share0 (A := fun wx => Below w.heap.size w wx ∧ Blk wx w.heap.size #[.int .i64 a1, .int .i64 b1, .int .u64 (wb x1), .slice A1 l1.length c1] 57 ∧ Blk wx (w.heap.size + 1) #[.int .i64 a2, .int .i64 b2, .int .u64 (wb x2), .slice A2 l2.length c2] 59)
    · intro hS1_4
      refine mix_fork rfl rfl (fun K hK => ?_) (fun K hK => ?_)
      · have cc : z0.cell? ⟨w.heap.size, 3, none⟩ = some (.slice A1 l1.length c1) := m2.cell 3
        go_simp
        refine hK _ _ (fun _ _ => trivial) ?_
        clear hK K
        clear cc
        refine mix_fork rfl rfl (fun K hK => ?_) (fun K hK => ?_)
        · go_simp
          refine (cut1.out z0).mono ?_
          rintro e w' ⟨rfl, rfl⟩
          refine hK _ _ (fun _ _ => trivial) ?_
          clear hK K
          repeat (refine mix_pure rfl rfl (fun K hK => ?_); go_simp; refine hK _ ?_; clear hK K)
          refine mix_eff rfl rfl (fun K hK => ?_)
          have cc : z0.cell? ⟨(w.heap.size + 1), 3, none⟩ = some (.slice A2 l2.length c2) := m3.cell 3
          go_simp
          refine hK _ _ (fun _ _ => trivial) ?_
          clear hK K
          clear cc
          exact hS1_2_4 z0 ⟨hb, m2, m3⟩
        · have cc : z0.cell? ⟨(w.heap.size + 1), 3, none⟩ = some (.slice A2 l2.length c2) := m3.cell 3
          go_simp
          refine hK _ _ (fun _ _ => trivial) ?_
          clear hK K
          clear cc
          exact hS1_4 z0 ⟨hb, m2, m3⟩
      · have cc : z0.cell? ⟨(w.heap.size + 1), 3, none⟩ = some (.slice A2 l2.length c2) := m3.cell 3
        go_simp
        refine hK _ _ (fun _ _ => trivial) ?_
        clear hK K
        clear cc
        refine mix_eff rfl rfl (fun K hK => ?_)
        have cc : z0.cell? ⟨w.heap.size, 3, none⟩ = some (.slice A1 l1.length c1) := m2.cell 3
        go_simp
        refine hK _ _ (fun _ _ => trivial) ?_
        clear hK K
        clear cc
        exact hS1_4 z0 ⟨hb, m2, m3⟩
    · intro wx hA
      obtain ⟨hb, m2, m3⟩ := hA
      refine mix_eff rfl rfl (fun K hK => ?_)
      go_simp
      refine (cut1.out wx).mono ?_
      rintro e w' ⟨rfl, rfl⟩
      refine hK _ _ (fun _ _ => trivial) ?_
      clear hK K
      repeat (refine mix_pure rfl rfl (fun K hK => ?_); go_simp; refine hK _ ?_; clear hK K)
      exact hS1_2_4 wx ⟨hb, m2, m3⟩
  · intro wx hA
    obtain ⟨hb, m2, m3⟩ := hA
    refine mix_eff rfl rfl (fun K hK => ?_)
    go_simp
    refine (cut2.out wx).mono ?_
    rintro e w' ⟨rfl, rfl⟩
    refine hK _ _ (fun _ _ => trivial) ?_
    clear hK K
    refine mix_eff rfl rfl (fun K hK => ?_)
    have cc : wx.cell? ⟨w.heap.size, 3, none⟩ = some (.slice A1 l1.length c1) := m2.cell 3
    have ff := m2.frozen 3
    go_simp
    have n2 : Blk (wx.setCell ⟨w.heap.size, 3, none⟩ (.slice A1 q1 c1)) w.heap.size #[.int .i64 a1, .int .i64 b1, .int .u64 (wb x1), .slice A1 q1 c1] 57 := m2.set 3 (.slice A1 q1 c1)
    replace m3 := m3.farAt (show w.heap.size + 1 ≠ w.heap.size by omega) 3 (.slice A1 q1 c1)
    replace hb := below_setCell hb (show w.heap.size ≤ w.heap.size by omega) 3 (.slice A1 q1 c1)
    clear cc ff
    generalize wx.setCell ⟨w.heap.size, 3, none⟩ (.slice A1 q1 c1) = x9 at *
    refine hK _ _ (fun _ _ => trivial) ?_
    clear hK K
    clear m2
    repeat (refine mix_pure rfl rfl (fun K hK => ?_); go_simp; refine hK _ ?_; clear hK K)
    refine mix_eff rfl rfl (fun K hK => ?_)
    have cc : x9.cell? ⟨(w.heap.size + 1), 3, none⟩ = some (.slice A2 l2.length c2) := m3.cell 3
    have ff := m3.frozen 3
    go_simp
    have n3 : Blk (x9.setCell ⟨(w.heap.size + 1), 3, none⟩ (.slice A2 q2 c2)) (w.heap.size + 1) #[.int .i64 a2, .int .i64 b2, .int .u64 (wb x2), .slice A2 q2 c2] 59 := m3.set 3 (.slice A2 q2 c2)
    replace n2 := n2.farAt (show w.heap.size ≠ w.heap.size + 1 by omega) 3 (.slice A2 q2 c2)
    replace hb := below_setCell hb (show w.heap.size ≤ (w.heap.size + 1) by omega) 3 (.slice A2 q2 c2)
    clear cc ff
    generalize x9.setCell ⟨(w.heap.size + 1), 3, none⟩ (.slice A2 q2 c2) = x10 at *
    refine hK _ _ (fun _ _ => trivial) ?_
    clear hK K
    clear m3
    refine mix_nil ?_
    go_wp2_with fail
    refine mix_plan (fun _ => True) (.step 0 (.step 3 (.fork 1 4 (.fork 2 4 (.step 4 (.step 5 (.step 6 (.step 7 (.done))))) (.step 2 (.step 5 (.step 6 (.step 7 (.done)))))) (.step 1 (.step 2 (.step 5 (.step 6 (.step 7 (.done))))))))) [1, 2, 4, 5] [] [] (by kernel_rfl) (by kernel_rfl) (fun d _ _ _ _ h => by cases d <;> exact h) trivial ?_
    replace n2 := n2.drew
    replace n3 := n3.drew
    replace hb := hb.drew
    generalize x10.drew = y0 at *
    repeat (refine mix_pure rfl rfl (fun K hK => ?_); go_simp; refine hK _ ?_; clear hK K)
    apply share1 (A := fun u2 wx => Below w.heap.size w wx ∧ Blk wx w.heap.size #[.int .i64 a1, .int .i64 b1, .int .u64 (wb x1), .slice A1 q1 c1] 57 ∧ Blk wx (w.heap.size + 1) #[.int .i64 a2, .int .i64 b2, .int .u64 (wb x2), .slice A2 q2 c2] 59 ∧ Arg wx u2 (l1.take 1000))
    · intro hS1_2_4
      apply share0 (A := fun wx => Below w.heap.size w wx ∧ Blk wx w.heap.size #[.int .i64 a1, .int .i64 b1, .int .u64 (wb x1), .slice A1 q1 c1] 57 ∧ Blk wx (w.heap.size + 1) #[.int .i64 a2, .int .i64 b2, .int .u64 (wb x2), .slice A2 q2 c2] 59)
      · intro hS1_4
        refine mix_fork rfl rfl (fun K hK => ?_) (fun K hK => ?_)
        · have cc : y0.cell? ⟨w.heap.size, 3, none⟩ = some (.slice A1 q1 c1) := n2.cell 3
          go_simp
          refine hK _ _ (fun _ _ => trivial) ?_
          clear hK K
          clear cc
          refine mix_fork rfl rfl (fun K hK => ?_) (fun K hK => ?_)
          · go_simp
            refine (room_v (Hl1.out _ hb) (by rw [Hl1n.out]; exact HQ1.out)).mono ?_
            rintro e x2 ⟨u2, rfl, a2, hn⟩
            replace hb := hb.trans (hn.mono hb.size)
            replace n2 := n2.below hn n2.lt
            replace n3 := n3.below hn n3.lt
            refine hK _ _ (fun _ _ => trivial) ?_
            clear hK K hn
            refine mix_eff rfl rfl (fun K hK => ?_)
            have cc : x2.cell? ⟨(w.heap.size + 1), 3, none⟩ = some (.slice A2 q2 c2) := n3.cell 3
            go_simp
            refine hK _ _ (fun _ _ => trivial) ?_
            clear hK K
            clear cc
            exact hS1_2_4 u2 x2 ⟨hb, n2, n3, a2⟩
          · have cc : y0.cell? ⟨(w.heap.size + 1), 3, none⟩ = some (.slice A2 q2 c2) := n3.cell 3
            go_simp
            refine hK _ _ (fun _ _ => trivial) ?_
            clear hK K
            clear cc
            exact hS1_4 y0 ⟨hb, n2, n3⟩
        · have cc : y0.cell? ⟨(w.heap.size + 1), 3, none⟩ = some (.slice A2 q2 c2) := n3.cell 3
          go_simp
          refine hK _ _ (fun _ _ => trivial) ?_
          clear hK K
          clear cc
          refine mix_eff rfl rfl (fun K hK => ?_)
          have cc : y0.cell? ⟨w.heap.size, 3, none⟩ = some (.slice A1 q1 c1) := n2.cell 3
          go_simp
          refine hK _ _ (fun _ _ => trivial) ?_
          clear hK K
          clear cc
          exact hS1_4 y0 ⟨hb, n2, n3⟩
      · intro wx hA
        obtain ⟨hb, n2, n3⟩ := hA
        refine mix_eff rfl rfl (fun K hK => ?_)
        go_simp
        refine (room_v (Hl1.out _ hb) (by rw [Hl1n.out]; exact HQ1.out)).mono ?_
        rintro e x7 ⟨u2, rfl, a2, hn⟩
        replace hb := hb.trans (hn.mono hb.size)
        replace n2 := n2.below hn n2.lt
        replace n3 := n3.below hn n3.lt
        refine hK _ _ (fun _ _ => trivial) ?_
        clear hK K hn
        exact hS1_2_4 u2 x7 ⟨hb, n2, n3, a2⟩
    · intro u2 wx hA
      obtain ⟨hb, n2, n3, a2⟩ := hA
      refine mix_eff rfl rfl (fun K hK => ?_)
      go_simp
      refine (room_v (Hl2.out _ hb) (by rw [Hl2n.out]; exact HQ2.out)).mono ?_
      rintro e x8 ⟨u5, rfl, a5, hn⟩
      replace hb := hb.trans (hn.mono hb.size)
      replace n2 := n2.below hn n2.lt
      replace n3 := n3.below hn n3.lt
      replace a2 := a2.below hn
      refine hK _ _ (fun _ _ => trivial) ?_
      clear hK K hn
      repeat (refine mix_pure rfl rfl (fun K hK => ?_); go_simp; refine hK _ ?_; clear hK K)
      refine mix_nil ?_
      obtain ⟨Ao, co, rfl, hco, hRo⟩ := a2
      obtain ⟨Ap, cp, rfl, hcp, hRp⟩ := a5
      rw [Hl1n.out] at hco ⊢
      rw [Hl2n.out] at hcp ⊢
      have ao : Arg x8 (.slice Ao q1 co) (l1.take 1000) := arg_of' hRo Hl1n.out hco
      have ap : Arg x8 (.slice Ap q2 cp) (l2.take 1000) := arg_of' hRp Hl2n.out hcp
      have hbu := fun wx => build_up a1 b1 x1 Ao q1 co wx
      have hbd := fun wx => build_down a2 b2 x2 Ap q2 cp wx
      clear hRo hRp hco hcp
      cases he1 : endsB a1 b1 x1
      · have HE1 := Lib.hid he1
        have HU : Hid ((endsB a1 b1 x1 && onionB (l1.take 1000).length) = false) := by show _ = false; rw [he1]; rfl
        clear he1
        cases he2 : endsB a2 b2 x2
        · have HE2 := Lib.hid he2
          have HD : Hid ((endsB a2 b2 x2 && replyB (l2.take 1000).length) = false) := by show _ = false; rw [he2]; rfl
          clear he2
          have k0 : x8.cell? ⟨w.heap.size, 0, none⟩ = some (.int .i64 a1) := n2.cell 0
          have k1 : x8.cell? ⟨w.heap.size, 1, none⟩ = some (.int .i64 b1) := n2.cell 1
          have k2 : x8.cell? ⟨w.heap.size, 2, none⟩ = some (.int .u64 (wb x1)) := n2.cell 2
          have k3 : x8.cell? ⟨w.heap.size, 3, none⟩ = some (.slice A1 q1 c1) := n2.cell 3
          go_wp2_with fail
          clear k0 k1 k2 k3
          refine (putup_no HU.out ao (by rw [Hl1n.out]; have := HQ1.out; omega)).mono ?_
          rintro e y1 ⟨rfl, hn⟩
          replace n2 := n2.below hn n2.lt
          replace n3 := n3.below hn n3.lt
          replace hb := hb.trans (hn.mono hb.size)
          replace ao := ao.below hn
          replace ap := ap.below hn
          clear hn
          have j0 : y1.cell? ⟨(w.heap.size + 1), 0, none⟩ = some (.int .i64 a2) := n3.cell 0
          have j1 : y1.cell? ⟨(w.heap.size + 1), 1, none⟩ = some (.int .i64 b2) := n3.cell 1
          have j2 : y1.cell? ⟨(w.heap.size + 1), 2, none⟩ = some (.int .u64 (wb x2)) := n3.cell 2
          have j3 : y1.cell? ⟨(w.heap.size + 1), 3, none⟩ = some (.slice A2 q2 c2) := n3.cell 3
          go_wp2_with fail
          clear j0 j1 j2 j3
          refine (putdown_no HD.out ap (by rw [Hl2n.out]; have := HQ2.out; omega)).mono ?_
          rintro e y2 ⟨rfl, hn⟩
          replace n2 := n2.below hn n2.lt
          replace n3 := n3.below hn n3.lt
          replace hb := hb.trans (hn.mono hb.size)
          replace ao := ao.below hn
          replace ap := ap.below hn
          clear hn
          have k0 : y2.cell? ⟨w.heap.size, 0, none⟩ = some (.int .i64 a1) := n2.cell 0
          have k1 : y2.cell? ⟨w.heap.size, 1, none⟩ = some (.int .i64 b1) := n2.cell 1
          have k2 : y2.cell? ⟨w.heap.size, 2, none⟩ = some (.int .u64 (wb x1)) := n2.cell 2
          have k3 : y2.cell? ⟨w.heap.size, 3, none⟩ = some (.slice A1 q1 c1) := n2.cell 3
          go_wp2_with fail
          clear k0 k1 k2 k3
          refine (bytesEqual_v ao (Hl1.out _ hb)).mono ?_
          rintro e w' ⟨rfl, rfl⟩
          rw [beq_self_eq_true]
          have j0 : y2.cell? ⟨(w.heap.size + 1), 0, none⟩ = some (.int .i64 a2) := n3.cell 0
          have j1 : y2.cell? ⟨(w.heap.size + 1), 1, none⟩ = some (.int .i64 b2) := n3.cell 1
          have j2 : y2.cell? ⟨(w.heap.size + 1), 2, none⟩ = some (.int .u64 (wb x2)) := n3.cell 2
          have j3 : y2.cell? ⟨(w.heap.size + 1), 3, none⟩ = some (.slice A2 q2 c2) := n3.cell 3
          go_wp2_with fail
          clear j0 j1 j2 j3
          refine (bytesEqual_v ap (Hl2.out _ hb)).mono ?_
          rintro e w' ⟨rfl, rfl⟩
          rw [beq_self_eq_true]
          have k0 : y2.cell? ⟨w.heap.size, 0, none⟩ = some (.int .i64 a1) := n2.cell 0
          have k1 : y2.cell? ⟨w.heap.size, 1, none⟩ = some (.int .i64 b1) := n2.cell 1
          have k2 : y2.cell? ⟨w.heap.size, 2, none⟩ = some (.int .u64 (wb x1)) := n2.cell 2
          have k3 : y2.cell? ⟨w.heap.size, 3, none⟩ = some (.slice A1 q1 c1) := n2.cell 3
          go_wp2_with fail
          refine (rends_any a1 b1 x1 _).mono ?_
          rintro e w' ⟨rfl, rfl⟩
          rw [HE1.out]
          have j0 : y2.cell? ⟨(w.heap.size + 1), 0, none⟩ = some (.int .i64 a2) := n3.cell 0
          have j1 : y2.cell? ⟨(w.heap.size + 1), 1, none⟩ = some (.int .i64 b2) := n3.cell 1
          have j2 : y2.cell? ⟨(w.heap.size + 1), 2, none⟩ = some (.int .u64 (wb x2)) := n3.cell 2
          have j3 : y2.cell? ⟨(w.heap.size + 1), 3, none⟩ = some (.slice A2 q2 c2) := n3.cell 3
          go_wp2_with fail
          refine (rends_any a2 b2 x2 _).mono ?_
          rintro e w' ⟨rfl, rfl⟩
          rw [HE2.out]
          go_wp2_with fail
          go_ret
          exact ⟨rfl, hb⟩
        · have HE2 := Lib.hid he2
          cases hz2 : replyB (q2 : Int)
          · have HZ2 := Lib.hid hz2
            have HD : Hid ((endsB a2 b2 x2 && replyB (l2.take 1000).length) = false) := by show _ = false; rw [Hl2n.out, he2, hz2]; rfl
            clear he2 hz2
            have k0 : x8.cell? ⟨w.heap.size, 0, none⟩ = some (.int .i64 a1) := n2.cell 0
            have k1 : x8.cell? ⟨w.heap.size, 1, none⟩ = some (.int .i64 b1) := n2.cell 1
            have k2 : x8.cell? ⟨w.heap.size, 2, none⟩ = some (.int .u64 (wb x1)) := n2.cell 2
            have k3 : x8.cell? ⟨w.heap.size, 3, none⟩ = some (.slice A1 q1 c1) := n2.cell 3
            go_wp2_with fail
            clear k0 k1 k2 k3
            refine (putup_no HU.out ao (by rw [Hl1n.out]; have := HQ1.out; omega)).mono ?_
            rintro e y1 ⟨rfl, hn⟩
            replace n2 := n2.below hn n2.lt
            replace n3 := n3.below hn n3.lt
            replace hb := hb.trans (hn.mono hb.size)
            replace ao := ao.below hn
            replace ap := ap.below hn
            clear hn
            have j0 : y1.cell? ⟨(w.heap.size + 1), 0, none⟩ = some (.int .i64 a2) := n3.cell 0
            have j1 : y1.cell? ⟨(w.heap.size + 1), 1, none⟩ = some (.int .i64 b2) := n3.cell 1
            have j2 : y1.cell? ⟨(w.heap.size + 1), 2, none⟩ = some (.int .u64 (wb x2)) := n3.cell 2
            have j3 : y1.cell? ⟨(w.heap.size + 1), 3, none⟩ = some (.slice A2 q2 c2) := n3.cell 3
            go_wp2_with fail
            clear j0 j1 j2 j3
            refine (putdown_no HD.out ap (by rw [Hl2n.out]; have := HQ2.out; omega)).mono ?_
            rintro e y2 ⟨rfl, hn⟩
            replace n2 := n2.below hn n2.lt
            replace n3 := n3.below hn n3.lt
            replace hb := hb.trans (hn.mono hb.size)
            replace ao := ao.below hn
            replace ap := ap.below hn
            clear hn
            have k0 : y2.cell? ⟨w.heap.size, 0, none⟩ = some (.int .i64 a1) := n2.cell 0
            have k1 : y2.cell? ⟨w.heap.size, 1, none⟩ = some (.int .i64 b1) := n2.cell 1
            have k2 : y2.cell? ⟨w.heap.size, 2, none⟩ = some (.int .u64 (wb x1)) := n2.cell 2
            have k3 : y2.cell? ⟨w.heap.size, 3, none⟩ = some (.slice A1 q1 c1) := n2.cell 3
            go_wp2_with fail
            clear k0 k1 k2 k3
            refine (bytesEqual_v ao (Hl1.out _ hb)).mono ?_
            rintro e w' ⟨rfl, rfl⟩
            rw [beq_self_eq_true]
            have j0 : y2.cell? ⟨(w.heap.size + 1), 0, none⟩ = some (.int .i64 a2) := n3.cell 0
            have j1 : y2.cell? ⟨(w.heap.size + 1), 1, none⟩ = some (.int .i64 b2) := n3.cell 1
            have j2 : y2.cell? ⟨(w.heap.size + 1), 2, none⟩ = some (.int .u64 (wb x2)) := n3.cell 2
            have j3 : y2.cell? ⟨(w.heap.size + 1), 3, none⟩ = some (.slice A2 q2 c2) := n3.cell 3
            go_wp2_with fail
            clear j0 j1 j2 j3
            refine (bytesEqual_v ap (Hl2.out _ hb)).mono ?_
            rintro e w' ⟨rfl, rfl⟩
            rw [beq_self_eq_true]
            have k0 : y2.cell? ⟨w.heap.size, 0, none⟩ = some (.int .i64 a1) := n2.cell 0
            have k1 : y2.cell? ⟨w.heap.size, 1, none⟩ = some (.int .i64 b1) := n2.cell 1
            have k2 : y2.cell? ⟨w.heap.size, 2, none⟩ = some (.int .u64 (wb x1)) := n2.cell 2
            have k3 : y2.cell? ⟨w.heap.size, 3, none⟩ = some (.slice A1 q1 c1) := n2.cell 3
            go_wp2_with fail
            refine (rends_any a1 b1 x1 _).mono ?_
            rintro e w' ⟨rfl, rfl⟩
            rw [HE1.out]
            have j0 : y2.cell? ⟨(w.heap.size + 1), 0, none⟩ = some (.int .i64 a2) := n3.cell 0
            have j1 : y2.cell? ⟨(w.heap.size + 1), 1, none⟩ = some (.int .i64 b2) := n3.cell 1
            have j2 : y2.cell? ⟨(w.heap.size + 1), 2, none⟩ = some (.int .u64 (wb x2)) := n3.cell 2
            have j3 : y2.cell? ⟨(w.heap.size + 1), 3, none⟩ = some (.slice A2 q2 c2) := n3.cell 3
            go_wp2_with fail
            refine (rends_any a2 b2 x2 _).mono ?_
            rintro e w' ⟨rfl, rfl⟩
            rw [HE2.out]
            go_wp2_with fail
            refine (rreply_any q2 _).mono ?_
            rintro e w' ⟨⟨hh, rfl, -, hd⟩, rfl⟩
            replace hd : decide (0 < hh) = replyB q2 := hd
            rw [HZ2.out] at hd
            have hd2 : ¬ 0 < hh := of_decide_eq_false hd
            clear hd
            go_wp2_with fail
            clear hd2
            go_ret
            exact ⟨rfl, hb⟩
          · have HZ2 := Lib.hid hz2
            have HD : Hid ((endsB a2 b2 x2 && replyB (l2.take 1000).length) = true) := by show _ = true; rw [Hl2n.out, he2, hz2]; rfl
            clear he2 hz2
            have k0 : x8.cell? ⟨w.heap.size, 0, none⟩ = some (.int .i64 a1) := n2.cell 0
            have k1 : x8.cell? ⟨w.heap.size, 1, none⟩ = some (.int .i64 b1) := n2.cell 1
            have k2 : x8.cell? ⟨w.heap.size, 2, none⟩ = some (.int .u64 (wb x1)) := n2.cell 2
            have k3 : x8.cell? ⟨w.heap.size, 3, none⟩ = some (.slice A1 q1 c1) := n2.cell 3
            go_wp2_with fail
            clear k0 k1 k2 k3
            refine (putup_no HU.out ao (by rw [Hl1n.out]; have := HQ1.out; omega)).mono ?_
            rintro e y1 ⟨rfl, hn⟩
            replace n2 := n2.below hn n2.lt
            replace n3 := n3.below hn n3.lt
            replace hb := hb.trans (hn.mono hb.size)
            replace ao := ao.below hn
            replace ap := ap.below hn
            clear hn
            have j0 : y1.cell? ⟨(w.heap.size + 1), 0, none⟩ = some (.int .i64 a2) := n3.cell 0
            have j1 : y1.cell? ⟨(w.heap.size + 1), 1, none⟩ = some (.int .i64 b2) := n3.cell 1
            have j2 : y1.cell? ⟨(w.heap.size + 1), 2, none⟩ = some (.int .u64 (wb x2)) := n3.cell 2
            have j3 : y1.cell? ⟨(w.heap.size + 1), 3, none⟩ = some (.slice A2 q2 c2) := n3.cell 3
            go_wp2_with fail
            clear j0 j1 j2 j3
            refine (putdown_ok HD.out ap (by rw [Hl2n.out]; have := HQ2.out; omega)).mono ?_
            rintro e y2 ⟨⟨v9, rfl, h9⟩, hn⟩
            replace n2 := n2.below hn n2.lt
            replace n3 := n3.below hn n3.lt
            replace hb := hb.trans (hn.mono hb.size)
            replace ao := ao.below hn
            replace ap := ap.below hn
            clear hn
            replace h9 := h9.arg
            have k0 : y2.cell? ⟨w.heap.size, 0, none⟩ = some (.int .i64 a1) := n2.cell 0
            have k1 : y2.cell? ⟨w.heap.size, 1, none⟩ = some (.int .i64 b1) := n2.cell 1
            have k2 : y2.cell? ⟨w.heap.size, 2, none⟩ = some (.int .u64 (wb x1)) := n2.cell 2
            have k3 : y2.cell? ⟨w.heap.size, 3, none⟩ = some (.slice A1 q1 c1) := n2.cell 3
            go_wp2_with fail
            clear k0 k1 k2 k3
            refine (bytesEqual_v ao (Hl1.out _ hb)).mono ?_
            rintro e w' ⟨rfl, rfl⟩
            rw [beq_self_eq_true]
            have j0 : y2.cell? ⟨(w.heap.size + 1), 0, none⟩ = some (.int .i64 a2) := n3.cell 0
            have j1 : y2.cell? ⟨(w.heap.size + 1), 1, none⟩ = some (.int .i64 b2) := n3.cell 1
            have j2 : y2.cell? ⟨(w.heap.size + 1), 2, none⟩ = some (.int .u64 (wb x2)) := n3.cell 2
            have j3 : y2.cell? ⟨(w.heap.size + 1), 3, none⟩ = some (.slice A2 q2 c2) := n3.cell 3
            go_wp2_with fail
            clear j0 j1 j2 j3
            refine (bytesEqual_v ap (Hl2.out _ hb)).mono ?_
            rintro e w' ⟨rfl, rfl⟩
            rw [beq_self_eq_true]
            have k0 : y2.cell? ⟨w.heap.size, 0, none⟩ = some (.int .i64 a1) := n2.cell 0
            have k1 : y2.cell? ⟨w.heap.size, 1, none⟩ = some (.int .i64 b1) := n2.cell 1
            have k2 : y2.cell? ⟨w.heap.size, 2, none⟩ = some (.int .u64 (wb x1)) := n2.cell 2
            have k3 : y2.cell? ⟨w.heap.size, 3, none⟩ = some (.slice A1 q1 c1) := n2.cell 3
            go_wp2_with fail
            refine (rends_any a1 b1 x1 _).mono ?_
            rintro e w' ⟨rfl, rfl⟩
            rw [HE1.out]
            have j0 : y2.cell? ⟨(w.heap.size + 1), 0, none⟩ = some (.int .i64 a2) := n3.cell 0
            have j1 : y2.cell? ⟨(w.heap.size + 1), 1, none⟩ = some (.int .i64 b2) := n3.cell 1
            have j2 : y2.cell? ⟨(w.heap.size + 1), 2, none⟩ = some (.int .u64 (wb x2)) := n3.cell 2
            have j3 : y2.cell? ⟨(w.heap.size + 1), 3, none⟩ = some (.slice A2 q2 c2) := n3.cell 3
            go_wp2_with fail
            refine (rends_any a2 b2 x2 _).mono ?_
            rintro e w' ⟨rfl, rfl⟩
            rw [HE2.out]
            go_wp2_with fail
            refine (rreply_any q2 _).mono ?_
            rintro e w' ⟨⟨hh, rfl, -, hd⟩, rfl⟩
            replace hd : decide (0 < hh) = replyB q2 := hd
            rw [HZ2.out] at hd
            have hd2 : 0 < hh := of_decide_eq_true hd
            clear hd
            go_wp2_with fail
            clear j0 j1 j2 j3 hd2
            have hpk := packet_any 3 a2 b2 x2 _ (l2.take 1000) _ (Hl2.out _ hb) (by rw [Hl2n.out]; have := HQ2.out; omega)
            rw [show wb (3 : BitVec 8) = 3 from rfl] at hpk
            refine hpk.mono ?_
            rintro e y4 ⟨vk, rfl, hk, hn⟩
            clear hpk
            replace hk : OwnB y4 _ vk (packB 3 a2 b2 x2 (l2.take 1000)) := hk
            replace n2 := n2.below hn n2.lt
            replace n3 := n3.below hn n3.lt
            replace hb := hb.trans (hn.mono hb.size)
            replace ao := ao.below hn
            replace ap := ap.below hn
            replace h9 := h9.below hn
            clear hn
            go_wp2_with fail
            refine (bytesEqual_v h9 hk.arg).mono ?_
            rintro e w' ⟨rfl, rfl⟩
            rw [beq_self_eq_true]
            clear hk
            go_wp2_with fail
            go_ret
            exact ⟨rfl, hb⟩
      · have HE1 := Lib.hid he1
        cases hz1 : onionB (q1 : Int)
        · have HZ1 := Lib.hid hz1
          have HU : Hid ((endsB a1 b1 x1 && onionB (l1.take 1000).length) = false) := by show _ = false; rw [Hl1n.out, he1, hz1]; rfl
          clear he1 hz1
          cases he2 : endsB a2 b2 x2
          · have HE2 := Lib.hid he2
            have HD : Hid ((endsB a2 b2 x2 && replyB (l2.take 1000).length) = false) := by show _ = false; rw [he2]; rfl
            clear he2
            have k0 : x8.cell? ⟨w.heap.size, 0, none⟩ = some (.int .i64 a1) := n2.cell 0
            have k1 : x8.cell? ⟨w.heap.size, 1, none⟩ = some (.int .i64 b1) := n2.cell 1
            have k2 : x8.cell? ⟨w.heap.size, 2, none⟩ = some (.int .u64 (wb x1)) := n2.cell 2
            have k3 : x8.cell? ⟨w.heap.size, 3, none⟩ = some (.slice A1 q1 c1) := n2.cell 3
            go_wp2_with fail
            clear k0 k1 k2 k3
            refine (putup_no HU.out ao (by rw [Hl1n.out]; have := HQ1.out; omega)).mono ?_
            rintro e y1 ⟨rfl, hn⟩
            replace n2 := n2.below hn n2.lt
            replace n3 := n3.below hn n3.lt
            replace hb := hb.trans (hn.mono hb.size)
            replace ao := ao.below hn
            replace ap := ap.below hn
            clear hn
            have j0 : y1.cell? ⟨(w.heap.size + 1), 0, none⟩ = some (.int .i64 a2) := n3.cell 0
            have j1 : y1.cell? ⟨(w.heap.size + 1), 1, none⟩ = some (.int .i64 b2) := n3.cell 1
            have j2 : y1.cell? ⟨(w.heap.size + 1), 2, none⟩ = some (.int .u64 (wb x2)) := n3.cell 2
            have j3 : y1.cell? ⟨(w.heap.size + 1), 3, none⟩ = some (.slice A2 q2 c2) := n3.cell 3
            go_wp2_with fail
            clear j0 j1 j2 j3
            refine (putdown_no HD.out ap (by rw [Hl2n.out]; have := HQ2.out; omega)).mono ?_
            rintro e y2 ⟨rfl, hn⟩
            replace n2 := n2.below hn n2.lt
            replace n3 := n3.below hn n3.lt
            replace hb := hb.trans (hn.mono hb.size)
            replace ao := ao.below hn
            replace ap := ap.below hn
            clear hn
            have k0 : y2.cell? ⟨w.heap.size, 0, none⟩ = some (.int .i64 a1) := n2.cell 0
            have k1 : y2.cell? ⟨w.heap.size, 1, none⟩ = some (.int .i64 b1) := n2.cell 1
            have k2 : y2.cell? ⟨w.heap.size, 2, none⟩ = some (.int .u64 (wb x1)) := n2.cell 2
            have k3 : y2.cell? ⟨w.heap.size, 3, none⟩ = some (.slice A1 q1 c1) := n2.cell 3
            go_wp2_with fail
            clear k0 k1 k2 k3
            refine (bytesEqual_v ao (Hl1.out _ hb)).mono ?_
            rintro e w' ⟨rfl, rfl⟩
            rw [beq_self_eq_true]
            have j0 : y2.cell? ⟨(w.heap.size + 1), 0, none⟩ = some (.int .i64 a2) := n3.cell 0
            have j1 : y2.cell? ⟨(w.heap.size + 1), 1, none⟩ = some (.int .i64 b2) := n3.cell 1
            have j2 : y2.cell? ⟨(w.heap.size + 1), 2, none⟩ = some (.int .u64 (wb x2)) := n3.cell 2
            have j3 : y2.cell? ⟨(w.heap.size + 1), 3, none⟩ = some (.slice A2 q2 c2) := n3.cell 3
            go_wp2_with fail
            clear j0 j1 j2 j3
            refine (bytesEqual_v ap (Hl2.out _ hb)).mono ?_
            rintro e w' ⟨rfl, rfl⟩
            rw [beq_self_eq_true]
            have k0 : y2.cell? ⟨w.heap.size, 0, none⟩ = some (.int .i64 a1) := n2.cell 0
            have k1 : y2.cell? ⟨w.heap.size, 1, none⟩ = some (.int .i64 b1) := n2.cell 1
            have k2 : y2.cell? ⟨w.heap.size, 2, none⟩ = some (.int .u64 (wb x1)) := n2.cell 2
            have k3 : y2.cell? ⟨w.heap.size, 3, none⟩ = some (.slice A1 q1 c1) := n2.cell 3
            go_wp2_with fail
            refine (rends_any a1 b1 x1 _).mono ?_
            rintro e w' ⟨rfl, rfl⟩
            rw [HE1.out]
            go_wp2_with fail
            refine (ronion_any q1 _).mono ?_
            rintro e w' ⟨⟨hh, rfl, -, hd⟩, rfl⟩
            replace hd : decide (0 < hh) = onionB q1 := hd
            rw [HZ1.out] at hd
            have hd2 : ¬ 0 < hh := of_decide_eq_false hd
            clear hd
            have j0 : y2.cell? ⟨(w.heap.size + 1), 0, none⟩ = some (.int .i64 a2) := n3.cell 0
            have j1 : y2.cell? ⟨(w.heap.size + 1), 1, none⟩ = some (.int .i64 b2) := n3.cell 1
            have j2 : y2.cell? ⟨(w.heap.size + 1), 2, none⟩ = some (.int .u64 (wb x2)) := n3.cell 2
            have j3 : y2.cell? ⟨(w.heap.size + 1), 3, none⟩ = some (.slice A2 q2 c2) := n3.cell 3
            go_wp2_with fail
            clear hd2
            refine (rends_any a2 b2 x2 _).mono ?_
            rintro e w' ⟨rfl, rfl⟩
            rw [HE2.out]
            go_wp2_with fail
            go_ret
            exact ⟨rfl, hb⟩
          · have HE2 := Lib.hid he2
            cases hz2 : replyB (q2 : Int)
            · have HZ2 := Lib.hid hz2
              have HD : Hid ((endsB a2 b2 x2 && replyB (l2.take 1000).length) = false) := by show _ = false; rw [Hl2n.out, he2, hz2]; rfl
              clear he2 hz2
              have k0 : x8.cell? ⟨w.heap.size, 0, none⟩ = some (.int .i64 a1) := n2.cell 0
              have k1 : x8.cell? ⟨w.heap.size, 1, none⟩ = some (.int .i64 b1) := n2.cell 1
              have k2 : x8.cell? ⟨w.heap.size, 2, none⟩ = some (.int .u64 (wb x1)) := n2.cell 2
              have k3 : x8.cell? ⟨w.heap.size, 3, none⟩ = some (.slice A1 q1 c1) := n2.cell 3
              go_wp2_with fail
              clear k0 k1 k2 k3
              refine (putup_no HU.out ao (by rw [Hl1n.out]; have := HQ1.out; omega)).mono ?_
              rintro e y1 ⟨rfl, hn⟩
              replace n2 := n2.below hn n2.lt
              replace n3 := n3.below hn n3.lt
              replace hb := hb.trans (hn.mono hb.size)
              replace ao := ao.below hn
              replace ap := ap.below hn
              clear hn
              have j0 : y1.cell? ⟨(w.heap.size + 1), 0, none⟩ = some (.int .i64 a2) := n3.cell 0
              have j1 : y1.cell? ⟨(w.heap.size + 1), 1, none⟩ = some (.int .i64 b2) := n3.cell 1
              have j2 : y1.cell? ⟨(w.heap.size + 1), 2, none⟩ = some (.int .u64 (wb x2)) := n3.cell 2
              have j3 : y1.cell? ⟨(w.heap.size + 1), 3, none⟩ = some (.slice A2 q2 c2) := n3.cell 3
              go_wp2_with fail
              clear j0 j1 j2 j3
              refine (putdown_no HD.out ap (by rw [Hl2n.out]; have := HQ2.out; omega)).mono ?_
              rintro e y2 ⟨rfl, hn⟩
              replace n2 := n2.below hn n2.lt
              replace n3 := n3.below hn n3.lt
              replace hb := hb.trans (hn.mono hb.size)
              replace ao := ao.below hn
              replace ap := ap.below hn
              clear hn
              have k0 : y2.cell? ⟨w.heap.size, 0, none⟩ = some (.int .i64 a1) := n2.cell 0
              have k1 : y2.cell? ⟨w.heap.size, 1, none⟩ = some (.int .i64 b1) := n2.cell 1
              have k2 : y2.cell? ⟨w.heap.size, 2, none⟩ = some (.int .u64 (wb x1)) := n2.cell 2
              have k3 : y2.cell? ⟨w.heap.size, 3, none⟩ = some (.slice A1 q1 c1) := n2.cell 3
              go_wp2_with fail
              clear k0 k1 k2 k3
              refine (bytesEqual_v ao (Hl1.out _ hb)).mono ?_
              rintro e w' ⟨rfl, rfl⟩
              rw [beq_self_eq_true]
              have j0 : y2.cell? ⟨(w.heap.size + 1), 0, none⟩ = some (.int .i64 a2) := n3.cell 0
              have j1 : y2.cell? ⟨(w.heap.size + 1), 1, none⟩ = some (.int .i64 b2) := n3.cell 1
              have j2 : y2.cell? ⟨(w.heap.size + 1), 2, none⟩ = some (.int .u64 (wb x2)) := n3.cell 2
              have j3 : y2.cell? ⟨(w.heap.size + 1), 3, none⟩ = some (.slice A2 q2 c2) := n3.cell 3
              go_wp2_with fail
              clear j0 j1 j2 j3
              refine (bytesEqual_v ap (Hl2.out _ hb)).mono ?_
              rintro e w' ⟨rfl, rfl⟩
              rw [beq_self_eq_true]
              have k0 : y2.cell? ⟨w.heap.size, 0, none⟩ = some (.int .i64 a1) := n2.cell 0
              have k1 : y2.cell? ⟨w.heap.size, 1, none⟩ = some (.int .i64 b1) := n2.cell 1
              have k2 : y2.cell? ⟨w.heap.size, 2, none⟩ = some (.int .u64 (wb x1)) := n2.cell 2
              have k3 : y2.cell? ⟨w.heap.size, 3, none⟩ = some (.slice A1 q1 c1) := n2.cell 3
              go_wp2_with fail
              refine (rends_any a1 b1 x1 _).mono ?_
              rintro e w' ⟨rfl, rfl⟩
              rw [HE1.out]
              go_wp2_with fail
              refine (ronion_any q1 _).mono ?_
              rintro e w' ⟨⟨hh, rfl, -, hd⟩, rfl⟩
              replace hd : decide (0 < hh) = onionB q1 := hd
              rw [HZ1.out] at hd
              have hd2 : ¬ 0 < hh := of_decide_eq_false hd
              clear hd
              have j0 : y2.cell? ⟨(w.heap.size + 1), 0, none⟩ = some (.int .i64 a2) := n3.cell 0
              have j1 : y2.cell? ⟨(w.heap.size + 1), 1, none⟩ = some (.int .i64 b2) := n3.cell 1
              have j2 : y2.cell? ⟨(w.heap.size + 1), 2, none⟩ = some (.int .u64 (wb x2)) := n3.cell 2
              have j3 : y2.cell? ⟨(w.heap.size + 1), 3, none⟩ = some (.slice A2 q2 c2) := n3.cell 3
              go_wp2_with fail
              clear hd2
              refine (rends_any a2 b2 x2 _).mono ?_
              rintro e w' ⟨rfl, rfl⟩
              rw [HE2.out]
              go_wp2_with fail
              refine (rreply_any q2 _).mono ?_
              rintro e w' ⟨⟨hh, rfl, -, hd⟩, rfl⟩
              replace hd : decide (0 < hh) = replyB q2 := hd
              rw [HZ2.out] at hd
              have hd2 : ¬ 0 < hh := of_decide_eq_false hd
              clear hd
              go_wp2_with fail
              clear hd2
              go_ret
              exact ⟨rfl, hb⟩
            · have HZ2 := Lib.hid hz2
              have HD : Hid ((endsB a2 b2 x2 && replyB (l2.take 1000).length) = true) := by show _ = true; rw [Hl2n.out, he2, hz2]; rfl
              clear he2 hz2
              have k0 : x8.cell? ⟨w.heap.size, 0, none⟩ = some (.int .i64 a1) := n2.cell 0
              have k1 : x8.cell? ⟨w.heap.size, 1, none⟩ = some (.int .i64 b1) := n2.cell 1
              have k2 : x8.cell? ⟨w.heap.size, 2, none⟩ = some (.int .u64 (wb x1)) := n2.cell 2
              have k3 : x8.cell? ⟨w.heap.size, 3, none⟩ = some (.slice A1 q1 c1) := n2.cell 3
              go_wp2_with fail
              clear k0 k1 k2 k3
              refine (putup_no HU.out ao (by rw [Hl1n.out]; have := HQ1.out; omega)).mono ?_
              rintro e y1 ⟨rfl, hn⟩
              replace n2 := n2.below hn n2.lt
              replace n3 := n3.below hn n3.lt
              replace hb := hb.trans (hn.mono hb.size)
              replace ao := ao.below hn
              replace ap := ap.below hn
              clear hn
              have j0 : y1.cell? ⟨(w.heap.size + 1), 0, none⟩ = some (.int .i64 a2) := n3.cell 0
              have j1 : y1.cell? ⟨(w.heap.size + 1), 1, none⟩ = some (.int .i64 b2) := n3.cell 1
              have j2 : y1.cell? ⟨(w.heap.size + 1), 2, none⟩ = some (.int .u64 (wb x2)) := n3.cell 2
              have j3 : y1.cell? ⟨(w.heap.size + 1), 3, none⟩ = some (.slice A2 q2 c2) := n3.cell 3
              go_wp2_with fail
              clear j0 j1 j2 j3
              refine (putdown_ok HD.out ap (by rw [Hl2n.out]; have := HQ2.out; omega)).mono ?_
              rintro e y2 ⟨⟨v9, rfl, h9⟩, hn⟩
              replace n2 := n2.below hn n2.lt
              replace n3 := n3.below hn n3.lt
              replace hb := hb.trans (hn.mono hb.size)
              replace ao := ao.below hn
              replace ap := ap.below hn
              clear hn
              replace h9 := h9.arg
              have k0 : y2.cell? ⟨w.heap.size, 0, none⟩ = some (.int .i64 a1) := n2.cell 0
              have k1 : y2.cell? ⟨w.heap.size, 1, none⟩ = some (.int .i64 b1) := n2.cell 1
              have k2 : y2.cell? ⟨w.heap.size, 2, none⟩ = some (.int .u64 (wb x1)) := n2.cell 2
              have k3 : y2.cell? ⟨w.heap.size, 3, none⟩ = some (.slice A1 q1 c1) := n2.cell 3
              go_wp2_with fail
              clear k0 k1 k2 k3
              refine (bytesEqual_v ao (Hl1.out _ hb)).mono ?_
              rintro e w' ⟨rfl, rfl⟩
              rw [beq_self_eq_true]
              have j0 : y2.cell? ⟨(w.heap.size + 1), 0, none⟩ = some (.int .i64 a2) := n3.cell 0
              have j1 : y2.cell? ⟨(w.heap.size + 1), 1, none⟩ = some (.int .i64 b2) := n3.cell 1
              have j2 : y2.cell? ⟨(w.heap.size + 1), 2, none⟩ = some (.int .u64 (wb x2)) := n3.cell 2
              have j3 : y2.cell? ⟨(w.heap.size + 1), 3, none⟩ = some (.slice A2 q2 c2) := n3.cell 3
              go_wp2_with fail
              clear j0 j1 j2 j3
              refine (bytesEqual_v ap (Hl2.out _ hb)).mono ?_
              rintro e w' ⟨rfl, rfl⟩
              rw [beq_self_eq_true]
              have k0 : y2.cell? ⟨w.heap.size, 0, none⟩ = some (.int .i64 a1) := n2.cell 0
              have k1 : y2.cell? ⟨w.heap.size, 1, none⟩ = some (.int .i64 b1) := n2.cell 1
              have k2 : y2.cell? ⟨w.heap.size, 2, none⟩ = some (.int .u64 (wb x1)) := n2.cell 2
              have k3 : y2.cell? ⟨w.heap.size, 3, none⟩ = some (.slice A1 q1 c1) := n2.cell 3
              go_wp2_with fail
              refine (rends_any a1 b1 x1 _).mono ?_
              rintro e w' ⟨rfl, rfl⟩
              rw [HE1.out]
              go_wp2_with fail
              refine (ronion_any q1 _).mono ?_
              rintro e w' ⟨⟨hh, rfl, -, hd⟩, rfl⟩
              replace hd : decide (0 < hh) = onionB q1 := hd
              rw [HZ1.out] at hd
              have hd2 : ¬ 0 < hh := of_decide_eq_false hd
              clear hd
              have j0 : y2.cell? ⟨(w.heap.size + 1), 0, none⟩ = some (.int .i64 a2) := n3.cell 0
              have j1 : y2.cell? ⟨(w.heap.size + 1), 1, none⟩ = some (.int .i64 b2) := n3.cell 1
              have j2 : y2.cell? ⟨(w.heap.size + 1), 2, none⟩ = some (.int .u64 (wb x2)) := n3.cell 2
              have j3 : y2.cell? ⟨(w.heap.size + 1), 3, none⟩ = some (.slice A2 q2 c2) := n3.cell 3
              go_wp2_with fail
              clear hd2
              refine (rends_any a2 b2 x2 _).mono ?_
              rintro e w' ⟨rfl, rfl⟩
              rw [HE2.out]
              go_wp2_with fail
              refine (rreply_any q2 _).mono ?_
              rintro e w' ⟨⟨hh, rfl, -, hd⟩, rfl⟩
              replace hd : decide (0 < hh) = replyB q2 := hd
              rw [HZ2.out] at hd
              have hd2 : 0 < hh := of_decide_eq_true hd
              clear hd
              go_wp2_with fail
              clear j0 j1 j2 j3 hd2
              have hpk := packet_any 3 a2 b2 x2 _ (l2.take 1000) _ (Hl2.out _ hb) (by rw [Hl2n.out]; have := HQ2.out; omega)
              rw [show wb (3 : BitVec 8) = 3 from rfl] at hpk
              refine hpk.mono ?_
              rintro e y4 ⟨vk, rfl, hk, hn⟩
              clear hpk
              replace hk : OwnB y4 _ vk (packB 3 a2 b2 x2 (l2.take 1000)) := hk
              replace n2 := n2.below hn n2.lt
              replace n3 := n3.below hn n3.lt
              replace hb := hb.trans (hn.mono hb.size)
              replace ao := ao.below hn
              replace ap := ap.below hn
              replace h9 := h9.below hn
              clear hn
              go_wp2_with fail
              refine (bytesEqual_v h9 hk.arg).mono ?_
              rintro e w' ⟨rfl, rfl⟩
              rw [beq_self_eq_true]
              clear hk
              go_wp2_with fail
              go_ret
              exact ⟨rfl, hb⟩
        · have HZ1 := Lib.hid hz1
          have HU : Hid ((endsB a1 b1 x1 && onionB (l1.take 1000).length) = true) := by show _ = true; rw [Hl1n.out, he1, hz1]; rfl
          clear he1 hz1
          cases he2 : endsB a2 b2 x2
          · have HE2 := Lib.hid he2
            have HD : Hid ((endsB a2 b2 x2 && replyB (l2.take 1000).length) = false) := by show _ = false; rw [he2]; rfl
            clear he2
            have k0 : x8.cell? ⟨w.heap.size, 0, none⟩ = some (.int .i64 a1) := n2.cell 0
            have k1 : x8.cell? ⟨w.heap.size, 1, none⟩ = some (.int .i64 b1) := n2.cell 1
            have k2 : x8.cell? ⟨w.heap.size, 2, none⟩ = some (.int .u64 (wb x1)) := n2.cell 2
            have k3 : x8.cell? ⟨w.heap.size, 3, none⟩ = some (.slice A1 q1 c1) := n2.cell 3
            go_wp2_with fail
            clear k0 k1 k2 k3
            refine (putup_ok HU.out ao (by rw [Hl1n.out]; have := HQ1.out; omega)).mono ?_
            rintro e y1 ⟨⟨v7, rfl, h7⟩, hn⟩
            replace n2 := n2.below hn n2.lt
            replace n3 := n3.below hn n3.lt
            replace hb := hb.trans (hn.mono hb.size)
            replace ao := ao.below hn
            replace ap := ap.below hn
            clear hn
            replace h7 := h7.arg
            have j0 : y1.cell? ⟨(w.heap.size + 1), 0, none⟩ = some (.int .i64 a2) := n3.cell 0
            have j1 : y1.cell? ⟨(w.heap.size + 1), 1, none⟩ = some (.int .i64 b2) := n3.cell 1
            have j2 : y1.cell? ⟨(w.heap.size + 1), 2, none⟩ = some (.int .u64 (wb x2)) := n3.cell 2
            have j3 : y1.cell? ⟨(w.heap.size + 1), 3, none⟩ = some (.slice A2 q2 c2) := n3.cell 3
            go_wp2_with fail
            clear j0 j1 j2 j3
            refine (putdown_no HD.out ap (by rw [Hl2n.out]; have := HQ2.out; omega)).mono ?_
            rintro e y2 ⟨rfl, hn⟩
            replace n2 := n2.below hn n2.lt
            replace n3 := n3.below hn n3.lt
            replace hb := hb.trans (hn.mono hb.size)
            replace ao := ao.below hn
            replace ap := ap.below hn
            replace h7 := h7.below hn
            clear hn
            have k0 : y2.cell? ⟨w.heap.size, 0, none⟩ = some (.int .i64 a1) := n2.cell 0
            have k1 : y2.cell? ⟨w.heap.size, 1, none⟩ = some (.int .i64 b1) := n2.cell 1
            have k2 : y2.cell? ⟨w.heap.size, 2, none⟩ = some (.int .u64 (wb x1)) := n2.cell 2
            have k3 : y2.cell? ⟨w.heap.size, 3, none⟩ = some (.slice A1 q1 c1) := n2.cell 3
            go_wp2_with fail
            clear k0 k1 k2 k3
            refine (bytesEqual_v ao (Hl1.out _ hb)).mono ?_
            rintro e w' ⟨rfl, rfl⟩
            rw [beq_self_eq_true]
            have j0 : y2.cell? ⟨(w.heap.size + 1), 0, none⟩ = some (.int .i64 a2) := n3.cell 0
            have j1 : y2.cell? ⟨(w.heap.size + 1), 1, none⟩ = some (.int .i64 b2) := n3.cell 1
            have j2 : y2.cell? ⟨(w.heap.size + 1), 2, none⟩ = some (.int .u64 (wb x2)) := n3.cell 2
            have j3 : y2.cell? ⟨(w.heap.size + 1), 3, none⟩ = some (.slice A2 q2 c2) := n3.cell 3
            go_wp2_with fail
            clear j0 j1 j2 j3
            refine (bytesEqual_v ap (Hl2.out _ hb)).mono ?_
            rintro e w' ⟨rfl, rfl⟩
            rw [beq_self_eq_true]
            have k0 : y2.cell? ⟨w.heap.size, 0, none⟩ = some (.int .i64 a1) := n2.cell 0
            have k1 : y2.cell? ⟨w.heap.size, 1, none⟩ = some (.int .i64 b1) := n2.cell 1
            have k2 : y2.cell? ⟨w.heap.size, 2, none⟩ = some (.int .u64 (wb x1)) := n2.cell 2
            have k3 : y2.cell? ⟨w.heap.size, 3, none⟩ = some (.slice A1 q1 c1) := n2.cell 3
            go_wp2_with fail
            refine (rends_any a1 b1 x1 _).mono ?_
            rintro e w' ⟨rfl, rfl⟩
            rw [HE1.out]
            go_wp2_with fail
            refine (ronion_any q1 _).mono ?_
            rintro e w' ⟨⟨hh, rfl, -, hd⟩, rfl⟩
            replace hd : decide (0 < hh) = onionB q1 := hd
            rw [HZ1.out] at hd
            have hd2 : 0 < hh := of_decide_eq_true hd
            clear hd
            go_wp2_with fail
            clear k0 k1 k2 k3 hd2
            have hpk := packet_any 2 a1 b1 x1 _ (l1.take 1000) _ (Hl1.out _ hb) (by rw [Hl1n.out]; have := HQ1.out; omega)
            rw [show wb (2 : BitVec 8) = 2 from rfl] at hpk
            refine hpk.mono ?_
            rintro e y3 ⟨vk, rfl, hk, hn⟩
            clear hpk
            replace hk : OwnB y3 _ vk (packB 2 a1 b1 x1 (l1.take 1000)) := hk
            replace n2 := n2.below hn n2.lt
            replace n3 := n3.below hn n3.lt
            replace hb := hb.trans (hn.mono hb.size)
            replace ao := ao.below hn
            replace ap := ap.below hn
            replace h7 := h7.below hn
            clear hn
            go_wp2_with fail
            refine (bytesEqual_v h7 hk.arg).mono ?_
            rintro e w' ⟨rfl, rfl⟩
            rw [beq_self_eq_true]
            clear hk
            have j0 : y3.cell? ⟨(w.heap.size + 1), 0, none⟩ = some (.int .i64 a2) := n3.cell 0
            have j1 : y3.cell? ⟨(w.heap.size + 1), 1, none⟩ = some (.int .i64 b2) := n3.cell 1
            have j2 : y3.cell? ⟨(w.heap.size + 1), 2, none⟩ = some (.int .u64 (wb x2)) := n3.cell 2
            have j3 : y3.cell? ⟨(w.heap.size + 1), 3, none⟩ = some (.slice A2 q2 c2) := n3.cell 3
            go_wp2_with fail
            refine (rends_any a2 b2 x2 _).mono ?_
            rintro e w' ⟨rfl, rfl⟩
            rw [HE2.out]
            go_wp2_with fail
            go_ret
            exact ⟨rfl, hb⟩
          · have HE2 := Lib.hid he2
            cases hz2 : replyB (q2 : Int)
            · have HZ2 := Lib.hid hz2
              have HD : Hid ((endsB a2 b2 x2 && replyB (l2.take 1000).length) = false) := by show _ = false; rw [Hl2n.out, he2, hz2]; rfl
              clear he2 hz2
              have k0 : x8.cell? ⟨w.heap.size, 0, none⟩ = some (.int .i64 a1) := n2.cell 0
              have k1 : x8.cell? ⟨w.heap.size, 1, none⟩ = some (.int .i64 b1) := n2.cell 1
              have k2 : x8.cell? ⟨w.heap.size, 2, none⟩ = some (.int .u64 (wb x1)) := n2.cell 2
              have k3 : x8.cell? ⟨w.heap.size, 3, none⟩ = some (.slice A1 q1 c1) := n2.cell 3
              go_wp2_with fail
              clear k0 k1 k2 k3
              refine (putup_ok HU.out ao (by rw [Hl1n.out]; have := HQ1.out; omega)).mono ?_
              rintro e y1 ⟨⟨v7, rfl, h7⟩, hn⟩
              replace n2 := n2.below hn n2.lt
              replace n3 := n3.below hn n3.lt
              replace hb := hb.trans (hn.mono hb.size)
              replace ao := ao.below hn
              replace ap := ap.below hn
              clear hn
              replace h7 := h7.arg
              have j0 : y1.cell? ⟨(w.heap.size + 1), 0, none⟩ = some (.int .i64 a2) := n3.cell 0
              have j1 : y1.cell? ⟨(w.heap.size + 1), 1, none⟩ = some (.int .i64 b2) := n3.cell 1
              have j2 : y1.cell? ⟨(w.heap.size + 1), 2, none⟩ = some (.int .u64 (wb x2)) := n3.cell 2
              have j3 : y1.cell? ⟨(w.heap.size + 1), 3, none⟩ = some (.slice A2 q2 c2) := n3.cell 3
              go_wp2_with fail
              clear j0 j1 j2 j3
              refine (putdown_no HD.out ap (by rw [Hl2n.out]; have := HQ2.out; omega)).mono ?_
              rintro e y2 ⟨rfl, hn⟩
              replace n2 := n2.below hn n2.lt
              replace n3 := n3.below hn n3.lt
              replace hb := hb.trans (hn.mono hb.size)
              replace ao := ao.below hn
              replace ap := ap.below hn
              replace h7 := h7.below hn
              clear hn
              have k0 : y2.cell? ⟨w.heap.size, 0, none⟩ = some (.int .i64 a1) := n2.cell 0
              have k1 : y2.cell? ⟨w.heap.size, 1, none⟩ = some (.int .i64 b1) := n2.cell 1
              have k2 : y2.cell? ⟨w.heap.size, 2, none⟩ = some (.int .u64 (wb x1)) := n2.cell 2
              have k3 : y2.cell? ⟨w.heap.size, 3, none⟩ = some (.slice A1 q1 c1) := n2.cell 3
              go_wp2_with fail
              clear k0 k1 k2 k3
              refine (bytesEqual_v ao (Hl1.out _ hb)).mono ?_
              rintro e w' ⟨rfl, rfl⟩
              rw [beq_self_eq_true]
              have j0 : y2.cell? ⟨(w.heap.size + 1), 0, none⟩ = some (.int .i64 a2) := n3.cell 0
              have j1 : y2.cell? ⟨(w.heap.size + 1), 1, none⟩ = some (.int .i64 b2) := n3.cell 1
              have j2 : y2.cell? ⟨(w.heap.size + 1), 2, none⟩ = some (.int .u64 (wb x2)) := n3.cell 2
              have j3 : y2.cell? ⟨(w.heap.size + 1), 3, none⟩ = some (.slice A2 q2 c2) := n3.cell 3
              go_wp2_with fail
              clear j0 j1 j2 j3
              refine (bytesEqual_v ap (Hl2.out _ hb)).mono ?_
              rintro e w' ⟨rfl, rfl⟩
              rw [beq_self_eq_true]
              have k0 : y2.cell? ⟨w.heap.size, 0, none⟩ = some (.int .i64 a1) := n2.cell 0
              have k1 : y2.cell? ⟨w.heap.size, 1, none⟩ = some (.int .i64 b1) := n2.cell 1
              have k2 : y2.cell? ⟨w.heap.size, 2, none⟩ = some (.int .u64 (wb x1)) := n2.cell 2
              have k3 : y2.cell? ⟨w.heap.size, 3, none⟩ = some (.slice A1 q1 c1) := n2.cell 3
              go_wp2_with fail
              refine (rends_any a1 b1 x1 _).mono ?_
              rintro e w' ⟨rfl, rfl⟩
              rw [HE1.out]
              go_wp2_with fail
              refine (ronion_any q1 _).mono ?_
              rintro e w' ⟨⟨hh, rfl, -, hd⟩, rfl⟩
              replace hd : decide (0 < hh) = onionB q1 := hd
              rw [HZ1.out] at hd
              have hd2 : 0 < hh := of_decide_eq_true hd
              clear hd
              go_wp2_with fail
              clear k0 k1 k2 k3 hd2
              have hpk := packet_any 2 a1 b1 x1 _ (l1.take 1000) _ (Hl1.out _ hb) (by rw [Hl1n.out]; have := HQ1.out; omega)
              rw [show wb (2 : BitVec 8) = 2 from rfl] at hpk
              refine hpk.mono ?_
              rintro e y3 ⟨vk, rfl, hk, hn⟩
              clear hpk
              replace hk : OwnB y3 _ vk (packB 2 a1 b1 x1 (l1.take 1000)) := hk
              replace n2 := n2.below hn n2.lt
              replace n3 := n3.below hn n3.lt
              replace hb := hb.trans (hn.mono hb.size)
              replace ao := ao.below hn
              replace ap := ap.below hn
              replace h7 := h7.below hn
              clear hn
              go_wp2_with fail
              refine (bytesEqual_v h7 hk.arg).mono ?_
              rintro e w' ⟨rfl, rfl⟩
              rw [beq_self_eq_true]
              clear hk
              have j0 : y3.cell? ⟨(w.heap.size + 1), 0, none⟩ = some (.int .i64 a2) := n3.cell 0
              have j1 : y3.cell? ⟨(w.heap.size + 1), 1, none⟩ = some (.int .i64 b2) := n3.cell 1
              have j2 : y3.cell? ⟨(w.heap.size + 1), 2, none⟩ = some (.int .u64 (wb x2)) := n3.cell 2
              have j3 : y3.cell? ⟨(w.heap.size + 1), 3, none⟩ = some (.slice A2 q2 c2) := n3.cell 3
              go_wp2_with fail
              refine (rends_any a2 b2 x2 _).mono ?_
              rintro e w' ⟨rfl, rfl⟩
              rw [HE2.out]
              go_wp2_with fail
              refine (rreply_any q2 _).mono ?_
              rintro e w' ⟨⟨hh, rfl, -, hd⟩, rfl⟩
              replace hd : decide (0 < hh) = replyB q2 := hd
              rw [HZ2.out] at hd
              have hd2 : ¬ 0 < hh := of_decide_eq_false hd
              clear hd
              go_wp2_with fail
              clear hd2
              go_ret
              exact ⟨rfl, hb⟩
            · have HZ2 := Lib.hid hz2
              have HD : Hid ((endsB a2 b2 x2 && replyB (l2.take 1000).length) = true) := by show _ = true; rw [Hl2n.out, he2, hz2]; rfl
              clear he2 hz2
              have k0 : x8.cell? ⟨w.heap.size, 0, none⟩ = some (.int .i64 a1) := n2.cell 0
              have k1 : x8.cell? ⟨w.heap.size, 1, none⟩ = some (.int .i64 b1) := n2.cell 1
              have k2 : x8.cell? ⟨w.heap.size, 2, none⟩ = some (.int .u64 (wb x1)) := n2.cell 2
              have k3 : x8.cell? ⟨w.heap.size, 3, none⟩ = some (.slice A1 q1 c1) := n2.cell 3
              go_wp2_with fail
              clear k0 k1 k2 k3
              refine (putup_ok HU.out ao (by rw [Hl1n.out]; have := HQ1.out; omega)).mono ?_
              rintro e y1 ⟨⟨v7, rfl, h7⟩, hn⟩
              replace n2 := n2.below hn n2.lt
              replace n3 := n3.below hn n3.lt
              replace hb := hb.trans (hn.mono hb.size)
              replace ao := ao.below hn
              replace ap := ap.below hn
              clear hn
              replace h7 := h7.arg
              have j0 : y1.cell? ⟨(w.heap.size + 1), 0, none⟩ = some (.int .i64 a2) := n3.cell 0
              have j1 : y1.cell? ⟨(w.heap.size + 1), 1, none⟩ = some (.int .i64 b2) := n3.cell 1
              have j2 : y1.cell? ⟨(w.heap.size + 1), 2, none⟩ = some (.int .u64 (wb x2)) := n3.cell 2
              have j3 : y1.cell? ⟨(w.heap.size + 1), 3, none⟩ = some (.slice A2 q2 c2) := n3.cell 3
              go_wp2_with fail
              clear j0 j1 j2 j3
              refine (putdown_ok HD.out ap (by rw [Hl2n.out]; have := HQ2.out; omega)).mono ?_
              rintro e y2 ⟨⟨v9, rfl, h9⟩, hn⟩
              replace n2 := n2.below hn n2.lt
              replace n3 := n3.below hn n3.lt
              replace hb := hb.trans (hn.mono hb.size)
              replace ao := ao.below hn
              replace ap := ap.below hn
              replace h7 := h7.below hn
              clear hn
              replace h9 := h9.arg
              have k0 : y2.cell? ⟨w.heap.size, 0, none⟩ = some (.int .i64 a1) := n2.cell 0
              have k1 : y2.cell? ⟨w.heap.size, 1, none⟩ = some (.int .i64 b1) := n2.cell 1
              have k2 : y2.cell? ⟨w.heap.size, 2, none⟩ = some (.int .u64 (wb x1)) := n2.cell 2
              have k3 : y2.cell? ⟨w.heap.size, 3, none⟩ = some (.slice A1 q1 c1) := n2.cell 3
              go_wp2_with fail
              clear k0 k1 k2 k3
              refine (bytesEqual_v ao (Hl1.out _ hb)).mono ?_
              rintro e w' ⟨rfl, rfl⟩
              rw [beq_self_eq_true]
              have j0 : y2.cell? ⟨(w.heap.size + 1), 0, none⟩ = some (.int .i64 a2) := n3.cell 0
              have j1 : y2.cell? ⟨(w.heap.size + 1), 1, none⟩ = some (.int .i64 b2) := n3.cell 1
              have j2 : y2.cell? ⟨(w.heap.size + 1), 2, none⟩ = some (.int .u64 (wb x2)) := n3.cell 2
              have j3 : y2.cell? ⟨(w.heap.size + 1), 3, none⟩ = some (.slice A2 q2 c2) := n3.cell 3
              go_wp2_with fail
              clear j0 j1 j2 j3
              refine (bytesEqual_v ap (Hl2.out _ hb)).mono ?_
              rintro e w' ⟨rfl, rfl⟩
              rw [beq_self_eq_true]
              have k0 : y2.cell? ⟨w.heap.size, 0, none⟩ = some (.int .i64 a1) := n2.cell 0
              have k1 : y2.cell? ⟨w.heap.size, 1, none⟩ = some (.int .i64 b1) := n2.cell 1
              have k2 : y2.cell? ⟨w.heap.size, 2, none⟩ = some (.int .u64 (wb x1)) := n2.cell 2
              have k3 : y2.cell? ⟨w.heap.size, 3, none⟩ = some (.slice A1 q1 c1) := n2.cell 3
              go_wp2_with fail
              refine (rends_any a1 b1 x1 _).mono ?_
              rintro e w' ⟨rfl, rfl⟩
              rw [HE1.out]
              go_wp2_with fail
              refine (ronion_any q1 _).mono ?_
              rintro e w' ⟨⟨hh, rfl, -, hd⟩, rfl⟩
              replace hd : decide (0 < hh) = onionB q1 := hd
              rw [HZ1.out] at hd
              have hd2 : 0 < hh := of_decide_eq_true hd
              clear hd
              go_wp2_with fail
              clear k0 k1 k2 k3 hd2
              have hpk := packet_any 2 a1 b1 x1 _ (l1.take 1000) _ (Hl1.out _ hb) (by rw [Hl1n.out]; have := HQ1.out; omega)
              rw [show wb (2 : BitVec 8) = 2 from rfl] at hpk
              refine hpk.mono ?_
              rintro e y3 ⟨vk, rfl, hk, hn⟩
              clear hpk
              replace hk : OwnB y3 _ vk (packB 2 a1 b1 x1 (l1.take 1000)) := hk
              replace n2 := n2.below hn n2.lt
              replace n3 := n3.below hn n3.lt
              replace hb := hb.trans (hn.mono hb.size)
              replace ao := ao.below hn
              replace ap := ap.below hn
              replace h7 := h7.below hn
              replace h9 := h9.below hn
              clear hn
              go_wp2_with fail
              refine (bytesEqual_v h7 hk.arg).mono ?_
              rintro e w' ⟨rfl, rfl⟩
              rw [beq_self_eq_true]
              clear hk
              have j0 : y3.cell? ⟨(w.heap.size + 1), 0, none⟩ = some (.int .i64 a2) := n3.cell 0
              have j1 : y3.cell? ⟨(w.heap.size + 1), 1, none⟩ = some (.int .i64 b2) := n3.cell 1
              have j2 : y3.cell? ⟨(w.heap.size + 1), 2, none⟩ = some (.int .u64 (wb x2)) := n3.cell 2
              have j3 : y3.cell? ⟨(w.heap.size + 1), 3, none⟩ = some (.slice A2 q2 c2) := n3.cell 3
              go_wp2_with fail
              refine (rends_any a2 b2 x2 _).mono ?_
              rintro e w' ⟨rfl, rfl⟩
              rw [HE2.out]
              go_wp2_with fail
              refine (rreply_any q2 _).mono ?_
              rintro e w' ⟨⟨hh, rfl, -, hd⟩, rfl⟩
              replace hd : decide (0 < hh) = replyB q2 := hd
              rw [HZ2.out] at hd
              have hd2 : 0 < hh := of_decide_eq_true hd
              clear hd
              go_wp2_with fail
              clear j0 j1 j2 j3 hd2
              have hpk := packet_any 3 a2 b2 x2 _ (l2.take 1000) _ (Hl2.out _ hb) (by rw [Hl2n.out]; have := HQ2.out; omega)
              rw [show wb (3 : BitVec 8) = 3 from rfl] at hpk
              refine hpk.mono ?_
              rintro e y4 ⟨vk, rfl, hk, hn⟩
              clear hpk
              replace hk : OwnB y4 _ vk (packB 3 a2 b2 x2 (l2.take 1000)) := hk
              replace n2 := n2.below hn n2.lt
              replace n3 := n3.below hn n3.lt
              replace hb := hb.trans (hn.mono hb.size)
              replace ao := ao.below hn
              replace ap := ap.below hn
              replace h7 := h7.below hn
              replace h9 := h9.below hn
              clear hn
              go_wp2_with fail
              refine (bytesEqual_v h9 hk.arg).mono ?_
              rintro e w' ⟨rfl, rfl⟩
              rw [beq_self_eq_true]
              clear hk
              go_wp2_with fail
              go_ret
              exact ⟨rfl, hb⟩
end Go.Proofs.Ytjnbgoiaocpcjaa
