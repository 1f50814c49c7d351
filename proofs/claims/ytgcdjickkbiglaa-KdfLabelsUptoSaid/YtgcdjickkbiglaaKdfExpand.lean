/- A key, spread (kdf.Expand). -/
import Derived.Test.YtgcdjickkbiglaaKdfRows
import Derived.Test.YtgcdjickkbiglaaBuildG
import Derived.Test.YtgcdjickkbiglaaOctGet
namespace Go.Proofs.Ytgcdjickkbiglaa
open Go.RowKit
set_option linter.unusedVariables false
set_option linter.unusedSimpArgs false
theorem run_slice_three {P : Program} {t e : TypeId} {z : Value} {size bytes : Nat} (T : ElemT P t e z size bytes) (A : Option Addr) (len cap : Nat) (hi mx : Int) (k k' : IntKind) (h0 : 0 ≤ hi) (h1 : hi ≤ mx) (h2 : mx ≤ (cap : Int)) (w : World) :
    (Instr.slice t (.slice A len cap) none (some (.int k hi)) (some (.int k' mx))).run P w = .ok (.slice (cutA A 0 mx.toNat size) hi.toNat mx.toNat) w := by
  obtain ⟨i, hi', hz, hs, hb⟩ := info_parts T.hi
  have h3 : 0 ≤ mx := by omega
  have h4 : hi ≤ max mx 0 := by omega
  simp [Instr.slice, run_underlying T.ht, Instr.sliceBounds, Instr.sliceBound, asIntOf, h0, h1, h2, h3, h4, sizeOf, typeInfo, hi', hs, cutA]
theorem OwnB.rd' {w : World} {base : Nat} {A : Option Addr} {n c : Nat} {l : List (BitVec 8)} (h : OwnB w base (.slice A n c) l) : Rd w .u8 A l ∧ l.length ≤ c := by
  obtain ⟨A', c', he, hc, hR⟩ := h.arg
  simp only [Value.slice.injEq] at he
  obtain ⟨rfl, -, rfl⟩ := he
  exact ⟨hR, hc⟩
theorem wpList_app2 {ops : Array Oper} {rest : List Oper} {o : Oper} {a : Act} {Q : Exit → Act → World → Prop} {w : World} (hgd : o.guard = none) (s x : Operand) (ho : o.op = .call { callee := .builtin .append, args := #[s, x], argTypes := #[22, 22] })
    (base : Nat) (v : Value) (l : List (BitVec 8)) (hs : a.eval s = v) (hown : OwnB w base v l) (u : Value) (m : List (BitVec 8)) (hx : a.eval x = u) (ha : Arg w u m)
    (hbytes : l.length + m.length ≤ 140737488355328) (hbase : base ≤ w.heap.size)
    (h : ∀ v' w', OwnB w' base v' (l ++ m) → w.grownBy w' v.ownBlock → Below base w w' → wpList Try.prog ops Q rest (a.put o.dst v') w') : wpList Try.prog ops Q (o :: rest) a w := by
  obtain ⟨A, c, rfl, hc, hr⟩ := ha
  refine wpList_append_row hgd s x bytesT ho base v _ _ hs hown A m.length c (encL .u8 m) hx (by rw [encL_length, Nat.mul_one]) hr.cells (encL_one _ _) (by omega) hbase ?_
  intro v' w' h2 hgr _
  refine h v' w' ?_ hgr (below_grown (Below.refl _ _) hbase hgr (fun q hq => (hown.lt q hq).1))
  unfold OwnB
  rw [List.length_append, encL_append]
  exact h2
set_option maxHeartbeats 1000000 in
theorem expand_refused (key : List (BitVec 8)) (iv : Value) (n : Int) (hn : n < 0 ∨ 8160 < n) (w : World) :
    Calls Try.prog 16 #[.agg (encs .u8 key), iv, .int .i64 n] w fun e w' => e = .returned (.tuple #[.slice none 0 0, .int .i64 2]) ∧ Below w.heap.size w w' := by
  have hb : Below w.heap.size w (w.alloc (.cells (encs .u8 key) 25)) := (Below.refl _ _).alloc (Nat.le_refl _) _
  by_cases i1 : n < 0
  · go_enter Try.func16, Try.ntmps16
    go_wp2_with fail
    first | go_ret2 | go_ret
    exact ⟨rfl, hb⟩
  · have i2 : 8160 < n := by omega
    go_enter Try.func16, Try.ntmps16
    go_wp2_with fail
    first | go_ret2 | go_ret
    exact ⟨rfl, hb⟩
set_option maxRecDepth 100000 in
set_option maxHeartbeats 4000000 in
theorem expand_any (key info : List (BitVec 8)) (iv : Value) (n : Nat) (w : World) (hk : key.length = 32) (hi : RowArg w iv info) (hil : info.length ≤ 1048576) (hn : n ≤ 8160) :
    Calls Try.prog 16 #[.agg (encs .u8 key), iv, .int .i64 n] w fun e w' => ∃ v, e = .returned (.tuple #[v, .int .i64 0]) ∧ RowArg w' v (expand key info n) ∧ (∀ b, v.ownBlock = some b → w.heap.size ≤ b) ∧ Below w.heap.size w w' := by
  have HI := Lib.hid hi
  obtain ⟨IA, ic, rfl, hic, hic2, hIR⟩ := hi
  have HIL := Lib.hid hil
  have HK := Lib.hid hk
  clear hic hic2 hIR hil
  have i1 : ¬ (n : Int) < 0 := by omega
  have i2 : ¬ (8160 : Int) < (n : Int) := by omega
  have m0 := Blk.new w (encs .u8 key) 25
  have hb : Below w.heap.size w (w.alloc (.cells (encs .u8 key) 25)) := (Below.refl _ _).alloc (Nat.le_refl _) _
  have HKL := Lib.hid (exOut_length key info)
  have HLL := Lib.hid (exLast_length key info)
  go_enter Try.func16, Try.ntmps16
  go_wp2_with fail
  go_loopw [8, 9, 10] (fun vo vl vi wr => ∃ k : Nat, k ≤ 255 ∧ vi = .int .i64 ((k : Int) + 1) ∧ OwnB wr (w.heap.size + 1) vo (exOut key info k) ∧ RowArg wr vl (exLast key info k) ∧ Blk wr w.heap.size (encs .u8 key) 25 ∧ Below w.heap.size w wr ∧ 32 * k < n + 32) (fun _ _ vi _ => 256 - (intOf vi).toNat)
  case atStart => exact ⟨0, by omega, rfl, World.ownsRow_nil _ _ _ _, RowArg.nil _, m0, hb, by omega⟩
  case round =>
    clear m0 hb
    obtain ⟨k, hk255, rfl, hown, hlast, m0, hb, hkn⟩ := hrel
    obtain ⟨L, hL⟩ : ∃ L, L = 32 * k := ⟨_, rfl⟩
    have hkl : (exOut key info k).length = L := by rw [HKL.out k, hL]
    have HOWN := Lib.hid hown
    obtain ⟨oA, oc, rfl, hoc, hocm, hocells, honil, ho0⟩ := owns_form hown
    obtain ⟨lA, lc, rfl, hlc, hlcm, hlR⟩ := id hlast
    have HLAST := Lib.hid hlast
    have HLL0 := Lib.hid (show (exLast key info k).length ≤ 32 by cases k with | zero => simp [exLast] | succ j => rw [exLast_length]; exact Nat.le_refl _)
    have HOB : Hid (∀ g, wr.heap.size ≤ g → (Value.slice oA (exOut key info k).length oc).ownBlock ≠ some g) := fun g hg he => by have := (HOWN.out.lt g he).2; omega
    clear hocells honil ho0 hlc hlcm hlR hlast hocm hown
    have HB := Lib.hid (And.intro m0 hb)
    rw [hkl] at hoc ⊢
    by_cases hlt : L < n
    · have j1 : (L : Int) < (n : Int) := by omega
      have hcv : IntKind.u8.wrap ((k : Int) + 1) = wb (BitVec.ofNat 8 (k + 1)) := by rw [← wrap_nat isU8 (k + 1)]; rfl
      have HCV := Lib.hid (show Value.int .u8 (IntKind.u8.wrap ((k : Int) + 1)) = .int .u8 (wb (BitVec.ofNat 8 (k + 1))) by rw [hcv])
      obtain ⟨ib, hib⟩ : ∃ ib, ib = BitVec.ofNat 8 (k + 1) := ⟨_, rfl⟩
      rw [← hib] at hcv
      clear HCV
      have HIB := Lib.hid hib
      clear hib
      have hn1 : Below wr.heap.size wr (wr.alloc (.cells (encs .u8 [ib]) 5)) := (Below.refl _ _).alloc (Nat.le_refl _) _
      have mb := Blk.new wr (encs .u8 [ib]) 5
      go_wp2_with fail
      have m1 : Blk ((wr.alloc (.cells #[.int .u8 (wb ib)] 5)).alloc (.cells #[.slice lA (exLast key info k).length lc, .slice IA info.length ic, .slice (some ⟨wr.heap.size, 0, none⟩) 1 1] 22)) (wr.heap.size + 1) #[.slice lA (exLast key info k).length lc, .slice IA info.length ic, .slice (some ⟨wr.heap.size, 0, none⟩) 1 1] 22 := Blk.new_at _ _ _ _ (by simp)
      have hn2 : Below wr.heap.size wr ((wr.alloc (.cells #[.int .u8 (wb ib)] 5)).alloc (.cells #[.slice lA (exLast key info k).length lc, .slice IA info.length ic, .slice (some ⟨wr.heap.size, 0, none⟩) 1 1] 22)) := ((Below.refl _ _).alloc (Nat.le_refl _) _).alloc (by simp) _
      replace mb : Blk ((wr.alloc (.cells #[.int .u8 (wb ib)] 5)).alloc (.cells #[.slice lA (exLast key info k).length lc, .slice IA info.length ic, .slice (some ⟨wr.heap.size, 0, none⟩) 1 1] 22)) wr.heap.size (encs .u8 [ib]) 5 := Blk.alloc mb _
      generalize (wr.alloc (.cells #[.int .u8 (wb ib)] 5)).alloc (.cells #[.slice lA (exLast key info k).length lc, .slice IA info.length ic, .slice (some ⟨wr.heap.size, 0, none⟩) 1 1] 22) = w2 at *
      replace m0 := m0.below hn2 m0.lt
      have a0 : Arg w2 (.slice (some ⟨w.heap.size, 0, none⟩) 32 32) key := m0.arg HK.out (Nat.le_refl _)
      refine (hmac3_v a0 (by rw [HK.out]; omega) m1 (HLAST.out.below hn2) (HI.out.below (hb.trans (hn2.mono hb.size))) (mb.rowArg rfl (Nat.le_refl _) (by omega)) (by have := HLL0.out; have := HIL.out; simp; omega)).mono ?_
      rintro e w3 ⟨rfl, hn⟩
      have hn3 := hn2.trans (hn.mono hn2.size)
      have HX : Hid (hmac key (exLast key info k ++ info ++ [ib]) = exLast key info (k + 1)) := by show _ = _; rw [HIB.out]; rfl
      rw [HX.out]
      have HL := Lib.hid (exLast_length key info k)
      generalize hS : exLast key info (k + 1) = S at *
      have hN := Blk.new w3 (encs .u8 z32s) 25
      have hBK := hN.row (encs .u8 S)
      have hn4 : Below w3.heap.size w3 ((w3.alloc (.cells (encs .u8 z32s) 25)).setRow w3.heap.size (encs .u8 S)) := below_setRow ((Below.refl _ _).alloc (Nat.le_refl _) _) (Nat.le_refl _) _
      have hn5 := hn3.trans (hn4.mono hn3.size)
      have hlt0 := (HB.out.1).lt
      replace m0 := HB.out.1.below hn5 HB.out.1.lt
      have hown5 := HOWN.out.below hn5
      rw [HKL.out] at hown5
      replace hb := hb.trans (hn5.mono hb.size)
      have hsz4 : w.heap.size + 1 ≤ ((w3.alloc (.cells (encs .u8 z32s) 25)).setRow w3.heap.size (encs .u8 S)).heap.size := m0.lt
      have hob5 : (Value.slice oA (32 * k) oc).ownBlock ≠ some w3.heap.size := by
        have := HOB.out w3.heap.size hn3.size
        rw [HKL.out] at this
        exact this
      clear hn hn2 hn3 hn4 hn5 a0 m1 mb
      go_wp2_with (first | (refine wpList_store_row rfl 25 _ _ rfl _ _ rfl rfl 25 _ hN (by rw [encs_size, HL.out]; exact sizeKey0) (by rw [encs_size, encs_size, HL.out]; rfl) (encs_one _ _) ?_; change wpList _ _ _ _ _ ((w3.alloc (.cells (encs .u8 z32s) 25)).setRow w3.heap.size (encs .u8 S)); generalize (w3.alloc (.cells (encs .u8 z32s) 25)).setRow w3.heap.size (encs .u8 S) = w4 at *; generalize w3.heap.size = gs at *) | (at_builtin; refine wpList_app2 rfl _ _ rfl (w.heap.size + 1) _ _ rfl hown5 _ S rfl (hBK.arg HL.out (Nat.le_refl _)) (by rw [HKL.out, HL.out]; omega) hsz4 ?_; intro v5 w5 hown6 hgr hn6) | fail)
      have hS2 : OwnB w5 (w.heap.size + 1) v5 (exOut key info (k + 1)) := by
        show OwnB w5 (w.heap.size + 1) v5 (exOut key info k ++ exLast key info (k + 1))
        rw [hS]
        exact hown6
      refine ⟨⟨k + 1, by omega, by go_num, hS2, ?_, m0.below hn6 (Nat.lt_succ_self _), hb.trans (hn6.mono (Nat.le_succ _)), by omega⟩, by simp [intOf]; omega⟩
      rw [hS]
      exact (hBK.grown hgr hob5).rowArg HL.out (Nat.le_refl _) (by omega)
    · have j1 : ¬ (L : Int) < (n : Int) := by omega
      have hsl := fun wx => run_slice_three (P := Try.prog) bytesT oA L oc (n : Int) (n : Int) .i64 .i64 (by omega) (by omega) (by omega) wx
      rw [cutA_zero, Int.toNat_natCast] at hsl
      go_wp2_with fail
      have hexp : Hid (expand key info n = (exOut key info k).take n) := by show _ = _; unfold expand; rw [show (n + 31) / 32 = k by omega]
      refine bodyPost_ret (results_tmp2 rfl _ _ _) rfl ?_
      refine ⟨.slice oA n n, rfl, ⟨oA, n, by rw [expand_length], by rw [expand_length]; exact Nat.le_refl _, by rw [expand_length]; omega, ?_⟩, fun b hbk => by
        cases oA with
        | none => cases hbk
        | some a => exact Nat.le_of_succ_le (HOWN.out.lt b hbk).1, HB.out.2⟩
      rw [hexp.out]
      exact rd_take HOWN.out.rd'.1 n
end Go.Proofs.Ytgcdjickkbiglaa
