/- The next bytes of a stream (printed by gendinext.py). -/
import Derived.Test.YtfamcgmgcchppaaDiPure
import Derived.Test.YtfamcgmgcchppaaOctBoth
import Derived.Test.YtfamcgmgcchppaaShr
import Derived.Test.YtfamcgmgcchppaaStepSt
namespace Go.Proofs.Ytfamcgmgcchppaa
open Go.RowKit
set_option linter.unusedVariables false
set_option linter.unusedSimpArgs false
attribute [local go_sem] min_imin
def z64d : List (BitVec 8) := List.replicate 64 0
theorem size64D : (Try.prog.info? 70).map (·.size) = some 64 := by kernel_rfl
def BlkP (w : World) (B : Nat) (u : Value) (l : List (BitVec 8)) : Prop := ∃ g, u = .pointer (some ⟨g, 0, none⟩) ∧ B ≤ g ∧ Blk w g (encs .u8 l) 70
theorem BlkP.below {w w' : World} {B : Nat} {u : Value} {l : List (BitVec 8)} (h : BlkP w B u l) (hb : Below w.heap.size w w') : BlkP w' B u l := by
  obtain ⟨g, rfl, h1, h2⟩ := h
  exact ⟨g, rfl, h1, h2.below hb h2.lt⟩
theorem blkN_any (key : List (BitVec 8)) (Q : Nat) (hk : key.length = 32) (w : World) :
    Calls Try.prog 36 #[.agg (encs .u8 key), .int .u32 (wb (BitVec.ofNat 32 Q)), .agg #[Value.int .u8 0, Value.int .u8 0, Value.int .u8 0, Value.int .u8 0, Value.int .u8 0, Value.int .u8 0, Value.int .u8 0, Value.int .u8 0, Value.int .u8 0, Value.int .u8 0, Value.int .u8 0, Value.int .u8 0]] w fun e w' => e = .returned (.agg (encs .u8 (blkN key Q))) ∧ Below w.heap.size w w' := by
  have h := block_any key z12 (BitVec.ofNat 32 Q) hk rfl w
  have hz : encs .u8 z12 = #[Value.int .u8 0, Value.int .u8 0, Value.int .u8 0, Value.int .u8 0, Value.int .u8 0, Value.int .u8 0, Value.int .u8 0, Value.int .u8 0, Value.int .u8 0, Value.int .u8 0, Value.int .u8 0, Value.int .u8 0] := by rfl
  rw [hz] at h
  exact h
def NextD (w : World) (g : Nat) (key : List (BitVec 8)) (t n : Nat) (e : Ending) (w' : World) : Prop := ∃ v, e = .returned v ∧ OwnB w' w.heap.size v (strm key t n) ∧ DiceR w' g key (t + n) ∧ Upd g w w'
theorem Blk.piece {w : World} {g : Nat} {l : List (BitVec 8)} {ty : TypeId} (h : Blk w g (encs .u8 l) ty) (R K : Nat) (hb : R + K ≤ l.length) : Rd w .u8 (some ⟨g, R, none⟩) ((l.drop R).take K) := fun i hi => by
  refine ⟨g, R, rfl, ?_⟩
  have h1 : R + i < l.length := by rw [List.length_take, List.length_drop] at hi; omega
  have := h.word (R + i) h1
  rw [this]
  have h2 : i < K := by rw [List.length_take] at hi; omega
  simp [List.getElem?_take, List.getElem?_drop, h2]
theorem OwnB.upd {w w' : World} {base g : Nat} {v : Value} {l : List (BitVec 8)} (h : OwnB w base v l) (hu : Upd g w w') (hg : g < base) : OwnB w' base v l := by
  refine ⟨h.1, ?_⟩
  rcases h.2 with h2 | ⟨g', cap, cur, hv, hg', hlt, r⟩
  · exact .inl h2
  · exact .inr ⟨g', cap, cur, hv, hg', (hu.block g' (Array.getElem?_eq_some_iff.1 hlt).1 (by omega)).trans hlt, r⟩
set_option maxRecDepth 100000 in
set_option maxHeartbeats 8000000 in
theorem next_any (g : Nat) (key : List (BitVec 8)) (t n : Nat) (w : World) (h : DiceR w g key t) (hn : n ≤ 1048576) (ht : t ≤ 1099511627776) :
    Calls Try.prog 27 #[.pointer (some ⟨g, 0, none⟩), .int .i64 n] w (NextD w g key t n) := by
  have hmk := fun wx => run_make_room (P := Try.prog) 22 5 .u8 8 1 Try.underlying22 bytesT.hi n (by omega) (by omega) wx
  have h0 : OwnB (w.alloc (.cells (encs .u8 (List.replicate n (0 : BitVec 8))) 5)) w.heap.size (.slice (some ⟨w.heap.size, 0, none⟩) 0 n) [] := owns_made (Blk.new _ _ _) (Nat.le_refl _) (by simp) (by unfold maxLen; omega)
  have hd0 : DiceR (w.alloc (.cells (encs .u8 (List.replicate n (0 : BitVec 8))) 5)) g key t := h.below ((Below.refl _ _).alloc (Nat.le_refl _) _)
  have hu0 : Upd g w (w.alloc (.cells (encs .u8 (List.replicate n (0 : BitVec 8))) 5)) := (Upd.of_below ((Below.refl _ _).alloc (Nat.le_refl _) _))
  have hgw := h.lt
  have hnonce := nonce0
  have HSL := Lib.hid (strm_length key t)
  go_enter Try.func27, Try.ntmps27
  go_wp2_with fail
  go_loopw [5] (fun vo wr => ∃ m : Nat, m ≤ n ∧ OwnB wr w.heap.size vo (strm key t m) ∧ DiceR wr g key (t + m) ∧ Upd g w wr) (fun vo _ => n - sliceLen vo)
  case atStart => exact ⟨0, by omega, h0, hd0, hu0⟩
  case round =>
    clear h0 hd0 hu0 h
    obtain ⟨m, hm, hown, hd, hu⟩ := hrel
    obtain ⟨T, hT⟩ : ∃ T, T = t + m := ⟨_, rfl⟩
    rw [← hT] at hd
    have HT := Lib.hid hT
    have hTb : T ≤ 1099512676352 := by omega
    have HOWN := Lib.hid hown
    have HD := Lib.hid hd
    have HU := Lib.hid hu
    have hgr := hd.lt
    have hws := hu.size
    obtain ⟨oA, oc, rfl, hoc, -⟩ := id hown.arg
    rw [HSL.out] at hoc ⊢
    clear hown hd hu hT
    by_cases hlt : m < n
    · have j1 : (m : Int) < (n : Int) := by omega
      obtain ⟨Q, hQ⟩ : ∃ Q, Q = T / 64 := ⟨_, rfl⟩
      obtain ⟨R, hR⟩ : ∃ R, R = T % 64 := ⟨_, rfl⟩
      have hdiv : (T : Int).tdiv 64 = (Q : Int) := by rw [Int.tdiv_eq_ediv_of_nonneg (Int.natCast_nonneg _)]; omega
      have hmod : (T : Int).tmod 64 = (R : Int) := by rw [Int.tmod_eq_emod_of_nonneg (Int.natCast_nonneg _)]; omega
      have hR64 : R < 64 := by omega
      have hQw : IntKind.i64.wrap (Q : Int) = (Q : Int) := IntWalk.i64_in _ (by omega)
      have hRw : IntKind.i64.wrap (R : Int) = (R : Int) := IntWalk.i64_in _ (by omega)
      have hconv : IntKind.u32.wrap (Q : Int) = wb (BitVec.ofNat 32 Q) := wrap_nat isU32 _
      obtain ⟨K1, hK1⟩ : ∃ K1, K1 = min (n - m) (64 - R) := ⟨_, rfl⟩
      have hsub1 : IntKind.i64.wrap ((n : Int) - (m : Int)) = (n : Int) - (m : Int) := IntWalk.i64_in _ (by omega)
      have hmin : imin ((n : Int) - (m : Int)) (64 - (R : Int)) = (K1 : Int) := by unfold imin; split <;> omega
      have hKb : K1 ≤ 64 := by omega
      have hKn : m + K1 ≤ n := by omega
      have hKp : 0 < K1 := by omega
      have hRK : R + K1 ≤ 64 := by omega
      have hRKw : IntKind.i64.wrap ((R : Int) + (K1 : Int)) = (R : Int) + (K1 : Int) := IntWalk.i64_in _ (by omega)
      have HQ := Lib.hid hQ
      have HR := Lib.hid hR
      have HB := Lib.hid (blkN_length key Q)
      have HPC : Hid (strm key t (m + K1) = strm key t m ++ ((blkN key Q).drop R).take K1) := by
        show _ = _
        rw [strm_add, ← HT.out, strm_block key T K1 (by omega), hQ, hR]
      have HPL : Hid ((((blkN key Q).drop R).take K1).length = K1) := by
        show _ = _
        rw [List.length_take, List.length_drop, HB.out]; omega
      clear hQ hR hK1
      have hKL : Hid (key.length = 32) := HD.out.1
      go_wp2_with fail
      refine mix_plan (fun w' => Below wr.heap.size wr w') (.step 0 (.step 1 (.step 2 (.step 3 (.step 4 (.step 5 (.step 6 (.step 7 (.step 8 (.step 9 (.step 10 (.fork 11 12 (.step 12 (.step 13 (.done))) (.step 11 (.step 13 (.done))))))))))))))) [11, 12, 13] [3, 7] [] (by kernel_rfl) (by kernel_rfl) (fun d _ _ _ _ h => by cases d <;> exact h) (Below.refl _ _).drew ?_
      have hS : Below wr.heap.size wr wr.drew := (Below.refl _ _).drew
      generalize wr.drew = x0 at *
      repeat (refine mix_pure rfl rfl (fun K hK => ?_); go_simp; refine hK _ ?_; clear hK K)
      apply share1 (A := fun u12 wx => Below wr.heap.size wr wx ∧ BlkP wx wr.heap.size u12 z64d)
      · intro hS3_7_11_12
        refine mix_load_rd rfl rfl rfl rfl 41 _ rfl g 0 rfl .u8 key (fun w' hS => HD.out.rd.below hS) _ Try.underlying41 rfl (by rw [hKL.out]; exact sizeKeyD) ?_
        repeat (refine mix_pure rfl rfl (fun K hK => ?_); go_simp; refine hK _ ?_; clear hK K)
        refine mix_read (.int .i64 (T : Int)) rfl rfl rfl rfl (fun w' hS => ?_) ?_
        · have hc' := below_cell hS HD.out.cell
          go_simp
        repeat (refine mix_pure rfl rfl (fun K hK => ?_); go_simp; refine hK _ ?_; clear hK K)
        refine mix_fork rfl rfl (fun K hK => ?_) (fun K hK => ?_)
        · go_simp
          refine (blkN_any key Q hKL.out x0).mono ?_
          rintro e x1 ⟨rfl, hn⟩
          replace hS := hS.trans (hn.mono hS.size)
          refine hK _ _ (fun _ _ => hS) ?_
          clear hK K hn
          refine mix_eff rfl rfl (fun K hK => ?_)
          go_simp
          have hn : Below x1.heap.size x1 (x1.alloc (.cells #[Value.int .u8 0, Value.int .u8 0, Value.int .u8 0, Value.int .u8 0, Value.int .u8 0, Value.int .u8 0, Value.int .u8 0, Value.int .u8 0, Value.int .u8 0, Value.int .u8 0, Value.int .u8 0, Value.int .u8 0, Value.int .u8 0, Value.int .u8 0, Value.int .u8 0, Value.int .u8 0, Value.int .u8 0, Value.int .u8 0, Value.int .u8 0, Value.int .u8 0, Value.int .u8 0, Value.int .u8 0, Value.int .u8 0, Value.int .u8 0, Value.int .u8 0, Value.int .u8 0, Value.int .u8 0, Value.int .u8 0, Value.int .u8 0, Value.int .u8 0, Value.int .u8 0, Value.int .u8 0, Value.int .u8 0, Value.int .u8 0, Value.int .u8 0, Value.int .u8 0, Value.int .u8 0, Value.int .u8 0, Value.int .u8 0, Value.int .u8 0, Value.int .u8 0, Value.int .u8 0, Value.int .u8 0, Value.int .u8 0, Value.int .u8 0, Value.int .u8 0, Value.int .u8 0, Value.int .u8 0, Value.int .u8 0, Value.int .u8 0, Value.int .u8 0, Value.int .u8 0, Value.int .u8 0, Value.int .u8 0, Value.int .u8 0, Value.int .u8 0, Value.int .u8 0, Value.int .u8 0, Value.int .u8 0, Value.int .u8 0, Value.int .u8 0, Value.int .u8 0, Value.int .u8 0, Value.int .u8 0] 70)) := (Below.refl _ _).alloc (Nat.le_refl _) _
          have m12 : BlkP (x1.alloc (.cells #[Value.int .u8 0, Value.int .u8 0, Value.int .u8 0, Value.int .u8 0, Value.int .u8 0, Value.int .u8 0, Value.int .u8 0, Value.int .u8 0, Value.int .u8 0, Value.int .u8 0, Value.int .u8 0, Value.int .u8 0, Value.int .u8 0, Value.int .u8 0, Value.int .u8 0, Value.int .u8 0, Value.int .u8 0, Value.int .u8 0, Value.int .u8 0, Value.int .u8 0, Value.int .u8 0, Value.int .u8 0, Value.int .u8 0, Value.int .u8 0, Value.int .u8 0, Value.int .u8 0, Value.int .u8 0, Value.int .u8 0, Value.int .u8 0, Value.int .u8 0, Value.int .u8 0, Value.int .u8 0, Value.int .u8 0, Value.int .u8 0, Value.int .u8 0, Value.int .u8 0, Value.int .u8 0, Value.int .u8 0, Value.int .u8 0, Value.int .u8 0, Value.int .u8 0, Value.int .u8 0, Value.int .u8 0, Value.int .u8 0, Value.int .u8 0, Value.int .u8 0, Value.int .u8 0, Value.int .u8 0, Value.int .u8 0, Value.int .u8 0, Value.int .u8 0, Value.int .u8 0, Value.int .u8 0, Value.int .u8 0, Value.int .u8 0, Value.int .u8 0, Value.int .u8 0, Value.int .u8 0, Value.int .u8 0, Value.int .u8 0, Value.int .u8 0, Value.int .u8 0, Value.int .u8 0, Value.int .u8 0] 70)) wr.heap.size (.pointer (some ⟨x1.heap.size, 0, none⟩)) z64d := ⟨_, rfl, hS.size, Blk.new _ _ _⟩
          generalize x1.alloc (.cells #[Value.int .u8 0, Value.int .u8 0, Value.int .u8 0, Value.int .u8 0, Value.int .u8 0, Value.int .u8 0, Value.int .u8 0, Value.int .u8 0, Value.int .u8 0, Value.int .u8 0, Value.int .u8 0, Value.int .u8 0, Value.int .u8 0, Value.int .u8 0, Value.int .u8 0, Value.int .u8 0, Value.int .u8 0, Value.int .u8 0, Value.int .u8 0, Value.int .u8 0, Value.int .u8 0, Value.int .u8 0, Value.int .u8 0, Value.int .u8 0, Value.int .u8 0, Value.int .u8 0, Value.int .u8 0, Value.int .u8 0, Value.int .u8 0, Value.int .u8 0, Value.int .u8 0, Value.int .u8 0, Value.int .u8 0, Value.int .u8 0, Value.int .u8 0, Value.int .u8 0, Value.int .u8 0, Value.int .u8 0, Value.int .u8 0, Value.int .u8 0, Value.int .u8 0, Value.int .u8 0, Value.int .u8 0, Value.int .u8 0, Value.int .u8 0, Value.int .u8 0, Value.int .u8 0, Value.int .u8 0, Value.int .u8 0, Value.int .u8 0, Value.int .u8 0, Value.int .u8 0, Value.int .u8 0, Value.int .u8 0, Value.int .u8 0, Value.int .u8 0, Value.int .u8 0, Value.int .u8 0, Value.int .u8 0, Value.int .u8 0, Value.int .u8 0, Value.int .u8 0, Value.int .u8 0, Value.int .u8 0] 70) = x2 at *
          generalize Value.pointer (some ⟨x1.heap.size, 0, none⟩) = u12 at *
          replace hS := hS.trans (hn.mono hS.size)
          refine hK _ _ (fun _ _ => hS) ?_
          clear hK K hn
          exact hS3_7_11_12 u12 x2 ⟨hS, m12⟩
        · go_simp
          have hn : Below x0.heap.size x0 (x0.alloc (.cells #[Value.int .u8 0, Value.int .u8 0, Value.int .u8 0, Value.int .u8 0, Value.int .u8 0, Value.int .u8 0, Value.int .u8 0, Value.int .u8 0, Value.int .u8 0, Value.int .u8 0, Value.int .u8 0, Value.int .u8 0, Value.int .u8 0, Value.int .u8 0, Value.int .u8 0, Value.int .u8 0, Value.int .u8 0, Value.int .u8 0, Value.int .u8 0, Value.int .u8 0, Value.int .u8 0, Value.int .u8 0, Value.int .u8 0, Value.int .u8 0, Value.int .u8 0, Value.int .u8 0, Value.int .u8 0, Value.int .u8 0, Value.int .u8 0, Value.int .u8 0, Value.int .u8 0, Value.int .u8 0, Value.int .u8 0, Value.int .u8 0, Value.int .u8 0, Value.int .u8 0, Value.int .u8 0, Value.int .u8 0, Value.int .u8 0, Value.int .u8 0, Value.int .u8 0, Value.int .u8 0, Value.int .u8 0, Value.int .u8 0, Value.int .u8 0, Value.int .u8 0, Value.int .u8 0, Value.int .u8 0, Value.int .u8 0, Value.int .u8 0, Value.int .u8 0, Value.int .u8 0, Value.int .u8 0, Value.int .u8 0, Value.int .u8 0, Value.int .u8 0, Value.int .u8 0, Value.int .u8 0, Value.int .u8 0, Value.int .u8 0, Value.int .u8 0, Value.int .u8 0, Value.int .u8 0, Value.int .u8 0] 70)) := (Below.refl _ _).alloc (Nat.le_refl _) _
          have m12 : BlkP (x0.alloc (.cells #[Value.int .u8 0, Value.int .u8 0, Value.int .u8 0, Value.int .u8 0, Value.int .u8 0, Value.int .u8 0, Value.int .u8 0, Value.int .u8 0, Value.int .u8 0, Value.int .u8 0, Value.int .u8 0, Value.int .u8 0, Value.int .u8 0, Value.int .u8 0, Value.int .u8 0, Value.int .u8 0, Value.int .u8 0, Value.int .u8 0, Value.int .u8 0, Value.int .u8 0, Value.int .u8 0, Value.int .u8 0, Value.int .u8 0, Value.int .u8 0, Value.int .u8 0, Value.int .u8 0, Value.int .u8 0, Value.int .u8 0, Value.int .u8 0, Value.int .u8 0, Value.int .u8 0, Value.int .u8 0, Value.int .u8 0, Value.int .u8 0, Value.int .u8 0, Value.int .u8 0, Value.int .u8 0, Value.int .u8 0, Value.int .u8 0, Value.int .u8 0, Value.int .u8 0, Value.int .u8 0, Value.int .u8 0, Value.int .u8 0, Value.int .u8 0, Value.int .u8 0, Value.int .u8 0, Value.int .u8 0, Value.int .u8 0, Value.int .u8 0, Value.int .u8 0, Value.int .u8 0, Value.int .u8 0, Value.int .u8 0, Value.int .u8 0, Value.int .u8 0, Value.int .u8 0, Value.int .u8 0, Value.int .u8 0, Value.int .u8 0, Value.int .u8 0, Value.int .u8 0, Value.int .u8 0, Value.int .u8 0] 70)) wr.heap.size (.pointer (some ⟨x0.heap.size, 0, none⟩)) z64d := ⟨_, rfl, hS.size, Blk.new _ _ _⟩
          generalize x0.alloc (.cells #[Value.int .u8 0, Value.int .u8 0, Value.int .u8 0, Value.int .u8 0, Value.int .u8 0, Value.int .u8 0, Value.int .u8 0, Value.int .u8 0, Value.int .u8 0, Value.int .u8 0, Value.int .u8 0, Value.int .u8 0, Value.int .u8 0, Value.int .u8 0, Value.int .u8 0, Value.int .u8 0, Value.int .u8 0, Value.int .u8 0, Value.int .u8 0, Value.int .u8 0, Value.int .u8 0, Value.int .u8 0, Value.int .u8 0, Value.int .u8 0, Value.int .u8 0, Value.int .u8 0, Value.int .u8 0, Value.int .u8 0, Value.int .u8 0, Value.int .u8 0, Value.int .u8 0, Value.int .u8 0, Value.int .u8 0, Value.int .u8 0, Value.int .u8 0, Value.int .u8 0, Value.int .u8 0, Value.int .u8 0, Value.int .u8 0, Value.int .u8 0, Value.int .u8 0, Value.int .u8 0, Value.int .u8 0, Value.int .u8 0, Value.int .u8 0, Value.int .u8 0, Value.int .u8 0, Value.int .u8 0, Value.int .u8 0, Value.int .u8 0, Value.int .u8 0, Value.int .u8 0, Value.int .u8 0, Value.int .u8 0, Value.int .u8 0, Value.int .u8 0, Value.int .u8 0, Value.int .u8 0, Value.int .u8 0, Value.int .u8 0, Value.int .u8 0, Value.int .u8 0, Value.int .u8 0, Value.int .u8 0] 70) = x3 at *
          generalize Value.pointer (some ⟨x0.heap.size, 0, none⟩) = u12 at *
          replace hS := hS.trans (hn.mono hS.size)
          refine hK _ _ (fun _ _ => hS) ?_
          clear hK K hn
          refine mix_eff rfl rfl (fun K hK => ?_)
          go_simp
          refine (blkN_any key Q hKL.out x3).mono ?_
          rintro e x4 ⟨rfl, hn⟩
          replace hS := hS.trans (hn.mono hS.size)
          replace m12 := m12.below hn
          refine hK _ _ (fun _ _ => hS) ?_
          clear hK K hn
          exact hS3_7_11_12 u12 x4 ⟨hS, m12⟩
      · intro u12 wx hA
        obtain ⟨hS, m12⟩ := hA
        refine mix_eff rfl rfl (fun K hK => ?_)
        obtain ⟨gb, hgu, hgB, hgm⟩ := m12
        refine step_store_rowS rfl 70 _ _ rfl gb _ hgu rfl 70 _ hgm (by rw [encs_size, HB.out]; exact size64D) (by rw [encs_size, encs_size, HB.out]; rfl) (encs_one _ _) ?_
        replace hgm := hgm.row (encs .u8 (blkN key Q))
        replace hS := below_setRow hS hgB (encs .u8 (blkN key Q))
        generalize wx.setRow gb (encs .u8 (blkN key Q)) = x5 at *
        dsimp only [Act.put]
        refine hK _ _ (fun _ _ => hS) ?_
        clear hK K
        try clear m12
        refine mix_nil ?_
        have hd := HD.out.below hS
        have hown := HOWN.out.below hS
        rw [HSL.out] at hown
        have hu := HU.out.trans (Upd.of_below hS (g := g))
        have cT := hd.cell
        have hSs := hS.size
        clear hS hgB
        have hcut : ∀ wx, (Instr.sliceAt 70 (.pointer (some ⟨gb, 0, none⟩)) (some (.int .i64 (R : Int))) (some (.int .i64 ((R : Int) + (K1 : Int)))) none).run Try.prog wx = .ok (.slice (some ⟨gb, R, none⟩) K1 (64 - R)) wx := by
          intro wx
          have := run_cut64 gb R (R + K1) (by omega) hRK hR64 wx
          rwa [Int.natCast_add, Nat.add_sub_cancel_left] at this
        go_wp2_with fail
        refine mix_plan (fun w' => Below w.heap.size x5 w') (.step 0 (.step 1 (.step 2 (.step 3 (.step 4 (.step 5 (.step 6 (.step 7 (.step 8 (.step 9 (.step 10 (.step 11 (.step 12 (.step 13 (.step 14 (.step 15 .done)))))))))))))))) [14] [4, 9] [] (by kernel_rfl) (by kernel_rfl) (fun d _ _ _ _ h => by cases d <;> exact h) (Below.refl _ _).drew ?_
        have hS : Below w.heap.size x5 x5.drew := (Below.refl _ _).drew
        have hown2 := hown.below (Below.refl _ _).drew
        have hgm2 := hgm.below (Below.refl _ _).drew hgm.lt
        have hS6 := hS.size
        generalize x5.drew = x6 at *
        repeat (refine mix_pure rfl rfl (fun K hK => ?_); go_simp; refine hK _ ?_; clear hK K)
        refine mix_read (.int .i64 (T : Int)) rfl rfl rfl rfl (fun w' hS => ?_) ?_
        · have hc' := (hS.cell hgw).trans cT
          go_simp
        repeat (refine mix_pure rfl rfl (fun K hK => ?_); go_simp; refine hK _ ?_; clear hK K)
        refine mix_read (.int .i64 (T : Int)) rfl rfl rfl rfl (fun w' hS => ?_) ?_
        · have hc' := (hS.cell hgw).trans cT
          go_simp
        repeat (refine mix_pure rfl rfl (fun K hK => ?_); go_simp; refine hK _ ?_; clear hK K)
        refine mix_eff rfl rfl (fun K hK => ?_)
        refine step_app rfl _ _ rfl w.heap.size _ _ rfl hown2 (.slice (some ⟨gb, R, none⟩) K1 (64 - R)) (((blkN key Q).drop R).take K1) rfl ⟨some ⟨gb, R, none⟩, 64 - R, by rw [HPL.out], by rw [HPL.out]; omega, Blk.piece hgm2 R K1 (by rw [HB.out]; exact hRK)⟩ (by rw [HPL.out, HSL.out]; omega) (by omega) ?_
        intro v' x7 hown7 hb7
        refine hK _ _ (fun _ _ => hS.trans hb7) ?_
        clear hK K
        repeat (refine mix_pure rfl rfl (fun K hK => ?_); go_simp; refine hK _ ?_; clear hK K)
        refine mix_nil ?_
        rw [← HPC.out] at hown7
        replace hb7 := hS.trans hb7
        have hd7 : DiceR x7 g key T := ⟨hd.1, hd.2.below hb7 hgw⟩
        have hu7 := hu.behind hb7
        have c7 := hd7.cell
        have f7 := hd7.frozen
        clear hown2 hgm2 hown hd hu cT hb7 hgm hS
        go_wp2_with fail
        refine ⟨⟨m + K1, hKn, hown7.upd (Upd.setCell (Upd.refl g x7) 32 _) hgw, ?_, hu7.setCell 32 _⟩, ?_⟩
        · have h := hd7.set (T + K1)
          rw [Int.natCast_add] at h
          rw [show t + (m + K1) = T + K1 by rw [HT.out]; omega]
          exact h
        · obtain ⟨A', c', rfl, -, -⟩ := hown7.arg
          rw [HSL.out]
          show n - (m + K1) < n - m
          omega
    · obtain rfl : m = n := by omega
      have j1 : ¬ (m : Int) < (m : Int) := by omega
      go_wp2_with fail
      go_ret
      exact ⟨_, rfl, by have := HOWN.out; rw [HSL.out] at this; exact this, by rw [← HT.out]; exact HD.out, HU.out⟩
end Go.Proofs.Ytfamcgmgcchppaa
