/- frame.PutAnnounce (printed by genputa.py). -/
import Derived.Test.YtjnbgoiaocpcjaaFrAnnG
import Derived.Test.YtjnbgoiaocpcjaaShr
import Derived.Test.YtjnbgoiaocpcjaaWZeros
namespace Go.Proofs.Ytjnbgoiaocpcjaa
open Go.RowKit
set_option linter.unusedVariables false
set_option linter.unusedSimpArgs false
/-- A value that reads as n keys. -/
def ArgK (w : World) (v : Value) (n : Nat) (l : List (BitVec 8)) : Prop := ∃ A cap, v = .slice A n cap ∧ n ≤ cap ∧ Rd w .u8 A l ∧ l.length = 32 * n
theorem ArgK.below {w w' : World} {v : Value} {n : Nat} {l : List (BitVec 8)} (h : ArgK w v n l) (hb : Below w.heap.size w w') : ArgK w' v n l :=
  let ⟨A, cap, h1, h2, h3, h4⟩ := h
  ⟨A, cap, h1, h2, h3.below hb, h4⟩
theorem rd_off {w : World} {g off : Nat} {l : List (BitVec 8)} (h : Rd w .u8 (some ⟨g, off, none⟩) l) (s m : Nat) : Rd w .u8 (some ⟨g, off + s, none⟩) ((l.drop s).take m) := fun i hi => by
  rw [List.length_take, List.length_drop] at hi
  obtain ⟨g', off', he, hc⟩ := h (s + i) (by omega)
  cases he
  refine ⟨g, off + s, rfl, ?_⟩
  rw [Nat.add_assoc, hc]
  have h2 : i < m := by omega
  simp [List.getElem?_take, List.getElem?_drop, h2]
theorem zeros_encL (m : Nat) : (Builtin.zeroCells (Value.int .u8 0).cells m).toList = encL .u8 (List.replicate m (0 : BitVec 8)) := by
  have e : Builtin.zeroCells (Value.int .u8 0).cells m = encs .u8 (List.replicate m (0 : BitVec 8)) := by
    apply Array.ext
    · simp [Builtin.zeroCells, Value.cells, encs_size]
    · intro i h1 h2
      simp [Builtin.zeroCells, Value.cells, encs, wb, Nat.mod_one]
  rw [e, encs_toList]
theorem wpList_appz {ops : Array Oper} {rest : List Oper} {o : Oper} {a : Act} {Q : Exit → Act → World → Prop} {w : World} (hgd : o.guard = none) (s x : Operand) (ho : o.op = .call { callee := .builtin .append, args := #[s, x], argTypes := #[38, 3] })
    (base : Nat) (v : Value) (l : List (BitVec 8)) (hs : a.eval s = v) (hown : OwnB w base v l) (m : Nat) (hx : a.eval x = .int .i64 (m : Int))
    (hbytes : l.length + m ≤ 140737488355328) (hbase : base ≤ w.heap.size)
    (h : ∀ v' w', OwnB w' base v' (l ++ List.replicate m 0) → Below base w w' → wpList Try.prog ops Q rest (a.put o.dst v') w') : wpList Try.prog ops Q (o :: rest) a w := by
  obtain ⟨i, hi, hz, hsz, hb⟩ := info_parts bytesT.hi
  obtain ⟨v', w', hrun, h2, h3, _⟩ := YtjnbgoiaocpcjaaW.PrintWords.run_append_zeros (P := Try.prog) w base 38 3 o.type 5 i (.int .u8 0) 1 1 Try.underlying38 Try.underlying3 hi hz hsz hb rfl (by omega) (by omega) v l.length (encL .u8 l) hown .i64 m (by rw [zeros_encL]; exact encL_one _ _) (by omega) hbase
  refine wpList_plain hgd fun K hK => ?_
  unfold Oper.wp execOp
  simp only [ho, resolve, invoke, builtin, Sem.run_bind, Sem.run_pure, Result.andThen_ok, List.map_toArray, List.map_cons, List.map_nil, hs, hx, hrun]
  refine hK _ _ (h v' w' ?_ (below_grown (Below.refl _ _) hbase h3 (fun q hq => (hown.lt q hq).1)))
  unfold OwnB
  rw [List.length_append, List.length_replicate, encL_append, ← zeros_encL]
  exact h2
def annB (r : BitVec 64) (n : Nat) (l : List (BitVec 8)) : List (BitVec 8) := [1] ++ low r 8 ++ [BitVec.ofNat 8 n] ++ l ++ List.replicate (96 - 32 * n) 0
set_option maxRecDepth 100000 in
set_option maxHeartbeats 8000000 in
theorem putann_any (R : BitVec 64) (n : Nat) (v : Value) (l : List (BitVec 8)) (w : World) (hk : ArgK w v n l) (hn48 : n ≤ 4398046511104) :
    Calls Try.prog 40 #[.agg #[.int .u64 (wb R), v]] w (PutP (rightA R n) (annB R n l) w) := by
  obtain ⟨A, cap, rfl, hcap, hR, hl⟩ := hk
  have hbox : Below w.heap.size w (w.alloc (.cells #[.int .u64 (wb R), .slice A n cap] 78)) := (Below.refl _ _).alloc (Nat.le_refl _) _
  have mb := Blk.new w #[.int .u64 (wb R), .slice A n cap] 78
  cases hr : rightA R n with
  | false =>
    have hrt := right_any3 R A n cap
    rw [hr] at hrt
    have HRT := Lib.hid hrt
    clear hrt
    go_enter Try.func40, Try.ntmps40
    go_wp2_with (first | (refine wpList_load_last rfl 78 _ rfl _ #[.int .u64 (wb R), .slice A n cap] 78 _ _ rfl rfl Try.underlying78 rfl (by exact size_ann) ?_) | fail)
    refine (HRT.out _).mono ?_
    rintro e w1 ⟨rfl, hn⟩
    go_wp2_with fail
    refine bodyPost_ret (results_tmp2 rfl _ _ _) rfl ?_
    exact ⟨by rw [if_neg (by simp)]; rfl, hbox.trans (hn.mono hbox.size)⟩
  | true =>
    have hn3 : 1 ≤ n ∧ n ≤ 3 := by unfold rightA at hr; simp at hr; omega
    have hrt := right_any3 R A n cap
    rw [hr] at hrt
    have HRT := Lib.hid hrt
    clear hrt
    obtain ⟨g, off, rfl, -⟩ := hR 0 (by omega)
    have HR := Lib.hid hR
    have HL := Lib.hid hl
    have HN := Lib.hid hn3
    have hconv : IntKind.u8.wrap (n : Int) = wb (BitVec.ofNat 8 n) := wrap_nat isU8 _
    have hni : (n : Int) ≤ 3 := by omega
    have HAB : Hid (annB R n l = [1] ++ low R 8 ++ [BitVec.ofNat 8 n] ++ l ++ List.replicate (96 - 32 * n) 0) := rfl
    clear hr hR hl hn3
    generalize BitVec.ofNat 8 n = nb at *
    go_enter Try.func40, Try.ntmps40
    go_wp2_with (first | (refine wpList_load_last rfl 78 _ rfl _ #[.int .u64 (wb R), .slice (some ⟨g, off, none⟩) n cap] 78 _ _ rfl rfl Try.underlying78 rfl (by exact size_ann) ?_) | fail)
    refine (HRT.out _).mono ?_
    rintro e w1 ⟨rfl, hn⟩
    have hb := hbox.trans (hn.mono hbox.size)
    replace mb := mb.below hn mb.lt
    clear hn hbox HRT
    go_wp2_with fail
    refine mix_plan (fun w' => Blk w' w.heap.size #[.int .u64 (wb R), .slice (some ⟨g, off, none⟩) n cap] 78) (.step 1 (.step 2 (.step 4 (.step 5 (.step 6 (.step 7 (.fork 0 8 (.fork 3 8 (.step 8 (.step 9 (.step 10 (.done)))) (.step 3 (.step 9 (.step 10 (.done))))) (.step 0 (.step 3 (.step 9 (.step 10 (.done)))))))))))) [0, 3, 8, 9] [2, 5] [] (by kernel_rfl) (by kernel_rfl) (fun d _ _ _ _ h => by cases d <;> exact h) mb.drew ?_
    replace mb := mb.drew
    replace hb := hb.drew
    generalize w1.drew = x0 at *
    repeat (refine mix_pure rfl rfl (fun K hK => ?_); go_simp; refine hK _ ?_; clear hK K)
    refine mix_read (.int .u64 (wb R)) rfl rfl rfl rfl (fun w' hS => ?_) ?_
    · have k5 : w'.cell? ⟨w.heap.size, 0, none⟩ = some (.int .u64 (wb R)) := hS.cell 0
      go_simp
    repeat (refine mix_pure rfl rfl (fun K hK => ?_); go_simp; refine hK _ ?_; clear hK K)
    refine mix_read (.slice (some ⟨g, off, none⟩) n cap) rfl rfl rfl rfl (fun w' hS => ?_) ?_
    · have k5 : w'.cell? ⟨w.heap.size, 1, none⟩ = some (.slice (some ⟨g, off, none⟩) n cap) := hS.cell 1
      go_simp
    repeat (refine mix_pure rfl rfl (fun K hK => ?_); go_simp; refine hK _ ?_; clear hK K)
    apply share3 (A := fun v0 v3 v8 wx => Below w.heap.size w wx ∧ Blk wx w.heap.size #[.int .u64 (wb R), .slice (some ⟨g, off, none⟩) n cap] 78 ∧ OwnB wx (w.heap.size + 1) v3 ([1] ++ low R 8) ∧ Arg wx v8 [nb])
    · intro hS0_3_8
      apply share2 (A := fun v0 v8 wx => Below w.heap.size w wx ∧ Blk wx w.heap.size #[.int .u64 (wb R), .slice (some ⟨g, off, none⟩) n cap] 78 ∧ Arg wx v0 [1] ∧ Arg wx v8 [nb])
      · intro hS0_8
        refine mix_fork rfl rfl (fun K hK => ?_) (fun K hK => ?_)
        · go_simp
          have hn : Below x0.heap.size x0 (x0.alloc (.cells #[.int .u8 1] 5)) := (Below.refl _ _).alloc (Nat.le_refl _) _
          have a0 : Arg (x0.alloc (.cells #[.int .u8 1] 5)) (.slice (some ⟨x0.heap.size, 0, none⟩) 1 1) [1] := arg_of (Blk.new x0 (encs .u8 [1]) 5).rd rfl (Nat.le_refl _)
          generalize x0.alloc (.cells #[.int .u8 1] 5) = x1 at *
          generalize Value.slice (some ⟨x0.heap.size, 0, none⟩) 1 1 = v0 at *
          replace hb := hb.trans (hn.mono hb.size)
          replace mb := mb.below hn mb.lt
          refine hK _ _ (fun _ _ => mb) ?_
          clear hK K hn
          refine mix_fork rfl rfl (fun K hK => ?_) (fun K hK => ?_)
          · go_simp
            refine (put64_v a0 R (by simp)).mono ?_
            rintro e x2 ⟨v3, rfl, o3, hn⟩
            replace o3 : OwnB x2 x1.heap.size v3 ([1] ++ low R 8) := o3
            replace o3 := o3.base (show w.heap.size + 1 ≤ x1.heap.size by have := mb.lt; omega)
            replace hb := hb.trans (hn.mono hb.size)
            replace mb := mb.below hn mb.lt
            refine hK _ _ (fun _ _ => mb) ?_
            clear hK K hn
            try clear a0
            refine mix_eff rfl rfl (fun K hK => ?_)
            go_simp
            have hn : Below x2.heap.size x2 (x2.alloc (.cells #[.int .u8 (wb nb)] 5)) := (Below.refl _ _).alloc (Nat.le_refl _) _
            have a8 : Arg (x2.alloc (.cells #[.int .u8 (wb nb)] 5)) (.slice (some ⟨x2.heap.size, 0, none⟩) 1 1) [nb] := arg_of (Blk.new x2 (encs .u8 [nb]) 5).rd rfl (Nat.le_refl _)
            generalize x2.alloc (.cells #[.int .u8 (wb nb)] 5) = x3 at *
            generalize Value.slice (some ⟨x2.heap.size, 0, none⟩) 1 1 = v8 at *
            replace hb := hb.trans (hn.mono hb.size)
            replace mb := mb.below hn mb.lt
            replace o3 := o3.below hn
            refine hK _ _ (fun _ _ => mb) ?_
            clear hK K hn
            exact hS0_3_8 v0 v3 v8 x3 ⟨hb, mb, o3, a8⟩
          · go_simp
            have hn : Below x1.heap.size x1 (x1.alloc (.cells #[.int .u8 (wb nb)] 5)) := (Below.refl _ _).alloc (Nat.le_refl _) _
            have a8 : Arg (x1.alloc (.cells #[.int .u8 (wb nb)] 5)) (.slice (some ⟨x1.heap.size, 0, none⟩) 1 1) [nb] := arg_of (Blk.new x1 (encs .u8 [nb]) 5).rd rfl (Nat.le_refl _)
            generalize x1.alloc (.cells #[.int .u8 (wb nb)] 5) = x4 at *
            generalize Value.slice (some ⟨x1.heap.size, 0, none⟩) 1 1 = v8 at *
            replace hb := hb.trans (hn.mono hb.size)
            replace mb := mb.below hn mb.lt
            replace a0 := a0.below hn
            refine hK _ _ (fun _ _ => mb) ?_
            clear hK K hn
            exact hS0_8 v0 v8 x4 ⟨hb, mb, a0, a8⟩
        · go_simp
          have hn : Below x0.heap.size x0 (x0.alloc (.cells #[.int .u8 (wb nb)] 5)) := (Below.refl _ _).alloc (Nat.le_refl _) _
          have a8 : Arg (x0.alloc (.cells #[.int .u8 (wb nb)] 5)) (.slice (some ⟨x0.heap.size, 0, none⟩) 1 1) [nb] := arg_of (Blk.new x0 (encs .u8 [nb]) 5).rd rfl (Nat.le_refl _)
          generalize x0.alloc (.cells #[.int .u8 (wb nb)] 5) = x5 at *
          generalize Value.slice (some ⟨x0.heap.size, 0, none⟩) 1 1 = v8 at *
          replace hb := hb.trans (hn.mono hb.size)
          replace mb := mb.below hn mb.lt
          refine hK _ _ (fun _ _ => mb) ?_
          clear hK K hn
          refine mix_eff rfl rfl (fun K hK => ?_)
          go_simp
          have hn : Below x5.heap.size x5 (x5.alloc (.cells #[.int .u8 1] 5)) := (Below.refl _ _).alloc (Nat.le_refl _) _
          have a0 : Arg (x5.alloc (.cells #[.int .u8 1] 5)) (.slice (some ⟨x5.heap.size, 0, none⟩) 1 1) [1] := arg_of (Blk.new x5 (encs .u8 [1]) 5).rd rfl (Nat.le_refl _)
          generalize x5.alloc (.cells #[.int .u8 1] 5) = x6 at *
          generalize Value.slice (some ⟨x5.heap.size, 0, none⟩) 1 1 = v0 at *
          replace hb := hb.trans (hn.mono hb.size)
          replace mb := mb.below hn mb.lt
          replace a8 := a8.below hn
          refine hK _ _ (fun _ _ => mb) ?_
          clear hK K hn
          exact hS0_8 v0 v8 x6 ⟨hb, mb, a0, a8⟩
      · intro v0 v8 wx hA
        obtain ⟨hb, mb, a0, a8⟩ := hA
        refine mix_eff rfl rfl (fun K hK => ?_)
        go_simp
        refine (put64_v a0 R (by simp)).mono ?_
        rintro e x7 ⟨v3, rfl, o3, hn⟩
        replace o3 : OwnB x7 wx.heap.size v3 ([1] ++ low R 8) := o3
        replace o3 := o3.base (show w.heap.size + 1 ≤ wx.heap.size by have := mb.lt; omega)
        replace hb := hb.trans (hn.mono hb.size)
        replace mb := mb.below hn mb.lt
        replace a8 := a8.below hn
        refine hK _ _ (fun _ _ => mb) ?_
        clear hK K hn
        try clear a0
        exact hS0_3_8 v0 v3 v8 x7 ⟨hb, mb, o3, a8⟩
    · intro v0 v3 v8 wx hA
      obtain ⟨hb, mb, o3, a8⟩ := hA
      refine mix_eff rfl rfl (fun K hK => ?_)
      skip
      refine step_app rfl _ _ rfl (w.heap.size + 1) _ _ rfl o3 _ [nb] rfl a8 (by simp [low_length]) (by have := mb.lt; omega) (fun v9 x8 o9 hb9 => ?_)
      replace mb := mb.below hb9 (by omega)
      replace hb := hb.trans (hb9.mono (by omega))
      clear hb9
      refine hK _ _ (fun _ _ => mb) ?_
      clear hK K
      try clear o3 a8
      repeat (refine mix_pure rfl rfl (fun K hK => ?_); go_simp; refine hK _ ?_; clear hK K)
      refine mix_nil ?_
      have hs0 := mb.lt
      have cH1 : x8.cell? ⟨w.heap.size, 1, none⟩ = some (.slice (some ⟨g, off, none⟩) n cap) := mb.cell 1
      have HL0 : Hid (([1] ++ low R 8 ++ [nb] : List (BitVec 8)).length = 10) := by show _ = _; simp [low_length]
      generalize ([1] ++ low R 8 ++ [nb] : List (BitVec 8)) = hd at *
      obtain ⟨A9, c9, rfl, -, -⟩ := id o9.arg
      rw [HL0.out]
      rw [HL0.out] at o9
      have hni1 : 1 ≤ (n : Int) := by have := HN.out; omega
      go_wp2_with fail
      go_loopw [4, 23] (fun vo vi wr => ∃ k : Nat, k ≤ n ∧ vi = .int .i64 k ∧ OwnB wr (w.heap.size + 1) vo (hd ++ l.take (32 * k)) ∧ Below w.heap.size w wr ∧ w.heap.size < wr.heap.size) (fun _ vi _ => n - (intOf vi).toNat)
      case atStart => exact ⟨0, Nat.zero_le _, rfl, by rw [Nat.mul_zero, List.take_zero, List.append_nil]; exact o9, hb, hs0⟩
      case round =>
        clear o9 hb hs0 mb cH1
        obtain ⟨k, hk, rfl, ho, hb, hs0⟩ := hrel
        obtain ⟨oA, oc, rfl, -, -⟩ := id ho.arg
        have HLK : Hid ((hd ++ l.take (32 * k)).length = 10 + 32 * k) := by show _ = _; rw [List.length_append, HL0.out, List.length_take, HL.out]; omega
        rw [HLK.out]
        rw [HLK.out] at ho
        by_cases hlt : k < n
        · have i1 : (k : Int) < (n : Int) := by omega
          have hk0 : (0 : Int) ≤ (k : Int) := Int.natCast_nonneg _
          have HLT := Lib.hid hlt
          clear hlt
          obtain ⟨ky, hky⟩ : ∃ x, x = (l.drop (k * 32)).take 32 := ⟨_, rfl⟩
          have KL : Hid (ky.length = 32) := by show _ = _; rw [hky, List.length_take, List.length_drop, HL.out]; have := HLT.out; omega
          have hRk := (rd_off HR.out (k * 32) 32).below hb
          rw [← hky] at hRk
          have HTK : Hid ((hd ++ l.take (32 * k)) ++ ky = hd ++ l.take (32 * (k + 1))) := by
            show _ = _
            rw [hky, List.append_assoc, show 32 * (k + 1) = 32 * k + 32 by omega, List.take_add, Nat.mul_comm k 32]
          have HRK := Lib.hid hRk
          clear hky hRk
          generalize hd ++ l.take (32 * k) = cur at *
          have hn2 : Below wr.heap.size wr (wr.alloc (.cells (encs .u8 ky) 26)) := (Below.refl _ _).alloc (Nat.le_refl _) _
          have aK : Arg (wr.alloc (.cells (encs .u8 ky) 26)) (.slice (some ⟨wr.heap.size, 0, none⟩) 32 32) ky := arg_of (Blk.new wr (encs .u8 ky) 26).rd KL.out (Nat.le_refl _)
          have ho2 := ho.below hn2
          have hb2 := hb.trans (hn2.mono hb.size)
          have hs2 := hn2.size
          have HOB := Lib.hid ho2
          have HAK := Lib.hid aK
          clear hn2 ho hb aK ho2
          go_wp2_with (first | (refine wpList_load_rd rfl 26 _ rfl g (off + k * 32) rfl .u8 ky HRK.out _ Try.underlying26 rfl (by rw [KL.out]; exact sizeKey) ?_) | (refine wpList_store_last rfl 26 _ _ rfl _ _ (encs .u8 ky) 26 rfl rfl rfl (by rw [encs_size, KL.out]; exact sizeKey) (by rw [encs_size, KL.out]; rfl) (encs_one _ _) ?_; generalize wr.alloc (.cells (encs .u8 ky) 26) = w2 at *) | (at_builtin; refine wpList_app rfl _ _ rfl (w.heap.size + 1) _ cur rfl HOB.out _ ky rfl HAK.out (by rw [HLK.out, KL.out]; have := HLT.out; have := HN.out; omega) (by omega) (fun v4 w4 o4 hb4 => ?_); replace hb2 := hb2.trans (hb4.mono (by omega)); have hs4 := hb4.size; clear HOB HAK hb4) | fail)
          rw [HTK.out] at o4
          go_roundw
          case rel =>
            first | exact ⟨k + 1, by have := HLT.out; omega, by go_num, o4, hb2, by omega⟩ | ((repeat apply Exists.intro); exact ⟨⟨k + 1, by have := HLT.out; omega, by go_num, o4, hb2, by omega⟩, rfl⟩)
          case measure => simp [intOf]; have := HLT.out; omega
        · obtain rfl : k = n := by omega
          obtain ⟨m, hm⟩ : ∃ m : Nat, m = 96 - 32 * k := ⟨_, rfl⟩
          have hlenI : ((10 + 32 * k : Nat) : Int) = 10 + 32 * (k : Int) := by omega
          have hw1 : IntKind.i64.wrap (106 - (10 + 32 * (k : Int))) = (m : Int) := by rw [IntWalk.i64_in _ (by omega)]; have := HN.out; omega
          have HMB : Hid (hd ++ l.take (32 * k) ++ List.replicate m 0 = annB R k l) := by
            show _ = _
            rw [HAB.out, hm, List.take_of_length_le (by rw [HL.out]; exact Nat.le_refl _)]
          have HMN : Hid (m ≤ 96) := by show _ ≤ _; omega
          have HOB := Lib.hid ho
          clear ho hm
          go_wp2_with (first | (at_builtin; refine wpList_appz rfl _ _ rfl (w.heap.size + 1) _ _ rfl HOB.out m rfl (by rw [HLK.out]; have := HMN.out; have := HN.out; omega) (by omega) (fun v5 w5 o5 hb5 => ?_)) | fail)
          rw [HMB.out] at o5
          refine bodyPost_ret (results_tmp2 rfl _ _ _) rfl ?_
          exact ⟨by rw [if_pos rfl]; exact ⟨_, rfl, o5.base (by omega)⟩, hb.trans (hb5.mono (by omega))⟩
end Go.Proofs.Ytjnbgoiaocpcjaa
