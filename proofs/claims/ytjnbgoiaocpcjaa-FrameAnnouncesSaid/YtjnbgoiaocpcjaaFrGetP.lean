/- frame.get, GetUp, GetDown. -/
import Derived.Test.YtjnbgoiaocpcjaaFrPutU
import Derived.Test.YtjnbgoiaocpcjaaFrGet
namespace Go.Proofs.Ytjnbgoiaocpcjaa
open Go.RowKit
set_option linter.unusedVariables false
set_option linter.unusedSimpArgs false
theorem conv8_int_g (x : BitVec 8) : IntKind.i64.wrap (wb x) = wb x := IntWalk.i64_in _ (by have h := x.isLt; unfold wb; omega)
attribute [local go_sem] conv8_int_g wb_neq8
/-- What bytes say as a packet of a kind: whether they may be one. -/
def pkOk (kind : BitVec 8) (b : List (BitVec 8)) : Bool := (b.getD 0 0 == kind) && endsB (wb (b.getD 1 0)) (wb (b.getD 2 0)) (get64 (b.drop 3))
def pkC (ok : Bool) (b : List (BitVec 8)) : Int := if ok then wb (b.getD 1 0) else 0
def pkS (ok : Bool) (b : List (BitVec 8)) : Int := if ok then wb (b.getD 2 0) else 0
def pkR (ok : Bool) (b : List (BitVec 8)) : BitVec 64 := if ok then get64 (b.drop 3) else 0
def pkL (ok : Bool) (b : List (BitVec 8)) : List (BitVec 8) := if ok then b.drop 11 else []
def pkE (sz ok : Bool) : Int := if sz then (if ok then 0 else 241) else 240
def GetD (sz : Bool) (kind : BitVec 8) (b : List (BitVec 8)) (w : World) (e : Ending) (w' : World) : Prop :=
  ∃ v, e = .returned (.tuple #[.int .i64 (pkC (sz && pkOk kind b) b), .int .i64 (pkS (sz && pkOk kind b) b), .int .u64 (wb (pkR (sz && pkOk kind b) b)), v, .int .i64 (pkE sz (pkOk kind b))]) ∧ OwnB w' w.heap.size v (pkL (sz && pkOk kind b) b) ∧ Below w.heap.size w w'
theorem OwnB.nil' (w : World) (base : Nat) : OwnB w base (.slice none 0 0) [] := ⟨rfl, .inl ⟨rfl, rfl⟩⟩
theorem results_tmp5 {P : Program} {fn : Func} {a b c d f : Tmp} (h : fn.results = #[.tmp a, .tmp b, .tmp c, .tmp d, .tmp f]) (tmps : Array Value) (w : World) :
    (results fn tmps).run P w = .ok (.tuple #[tmps.getD a undef, tmps.getD b undef, tmps.getD c undef, tmps.getD d undef, tmps.getD f undef]) w := by
  simp [results, h]
set_option maxRecDepth 100000 in
set_option maxHeartbeats 4000000 in
theorem get_any3 (kind : BitVec 8) (F : Value) (sz : Bool) (b : List (BitVec 8)) (v : Value) (w : World) (hb : Arg w v b) (hl : b.length ≤ 1048576) (hsz : sz = true → 100 ≤ b.length)
    (hS : ∀ wx, Calls Try.prog 60 #[.int .i64 ((b.length : Int) - 11), F] wx fun e w' => e = .returned (.bool sz) ∧ wx = w') :
    Calls Try.prog 72 #[v, .int .u8 (wb kind), F] w (GetD sz kind b w) := by
  have HS := Lib.hid hS
  have hHB := Lib.hid hb
  obtain ⟨A, cap, rfl, hc, hR⟩ := hb
  obtain ⟨n, hn⟩ : ∃ n, n = b.length := ⟨_, rfl⟩
  have hwr : IntKind.i64.wrap ((b.length : Int) - 11) = (b.length : Int) - 11 := IntWalk.i64_in _ (by omega)
  cases sz with
  | false =>
    clear hS
    go_enter Try.func72, Try.ntmps72
    go_wp2_with fail
    refine (HS.out _).mono ?_
    rintro e w' ⟨rfl, rfl⟩
    go_wp2_with fail
    refine bodyPost_ret (results_tmp5 rfl _ _) rfl ?_
    exact ⟨_, rfl, OwnB.nil' _ _, Below.refl _ _⟩
  | true =>
    have h100 : 100 ≤ b.length := hsz rfl
    clear hS hsz
    have hA : Arg w (.slice (cutA A 3 cap 1) (b.length - 3) (cap - 3)) (b.drop 3) := by
      have := rd_cut hR 3 (b.length - 3) cap hc
      rw [List.take_of_length_le (by rw [List.length_drop]; omega)] at this
      exact arg_of this (List.length_drop ..) (by omega)
    have hs := fun wx => run_slice_from (P := Try.prog) bytesT A b.length cap 3 .i64 (by omega) (by omega) wx
    rw [show (3 : Int).toNat = 3 from rfl] at hs
    obtain ⟨a1, a2, a3, _⟩ := rd_ok (b.drop 3) 0 8 8 rfl (by rw [List.length_drop]; omega)
    have A1 : Hid (get64 (rdGot (b.drop 3) 0 0 8) = get64 (b.drop 3)) := by
      show _ = _
      rw [a1, List.drop_zero]
      simp [get64, List.take_take]
    have A2 := Lib.hid a2
    have A3 := Lib.hid a3
    rw [show 0 + 8 = 8 from rfl] at A2
    have hl3 : (b.drop 3).length = b.length - 3 := List.length_drop ..
    obtain ⟨c1, c2, c3, _⟩ := rd_ok (b.drop 3) 8 (b.length - 11) ((b.length : Int) - 11) (by omega) (by rw [hl3]; omega)
    have c1' : rdGot (b.drop 3) 8 0 ((b.length : Int) - 11) = b.drop 11 := by
      rw [c1, List.drop_drop, List.take_of_length_le (by rw [List.length_drop]; omega)]
    have C1 := Lib.hid c1'
    have hA0 := Lib.hid hA
    have H3 : Hid ((b.drop 3).length ≤ 140737488355328) := by show _ ≤ _; omega
    have HL3 := Lib.hid hl3
    obtain ⟨g0, off, rfl, hcell0⟩ := hR 0 (by omega)
    obtain ⟨_, _, he1, hcell1⟩ := hR 1 (by omega)
    cases he1
    obtain ⟨_, _, he2, hcell2⟩ := hR 2 (by omega)
    cases he2
    have hi1 : (1 : Int) < (b.length : Int) := by omega
    have hi2 : (2 : Int) < (b.length : Int) := by omega
    have hi0 : (0 : Int) < (b.length : Int) := by omega
    rw [Nat.add_zero] at hcell0
    have HG0 : Hid ((!(b.getD 0 0 != kind) && endsB (wb (b.getD 1 0)) (wb (b.getD 2 0)) (get64 (b.drop 3))) = pkOk kind b) := by
      show _ = _
      unfold pkOk bne
      rw [Bool.not_not]
    have HPOST : Hid (∀ (ok : Bool) v w', ok = pkOk kind b → OwnB w' w.heap.size v (pkL ok b) → Below w.heap.size w w' → GetD true kind b w (.returned (.tuple #[.int .i64 (pkC ok b), .int .i64 (pkS ok b), .int .u64 (wb (pkR ok b)), v, .int .i64 (pkE true ok)])) w') := by
      intro ok v w' ho h1 h2
      subst ho
      exact ⟨v, by simp, by simpa using h1, h2⟩
    have HQ : Hid (wb (b.getD 1 0) = pkC true b ∧ wb (b.getD 2 0) = pkS true b ∧ get64 (b.drop 3) = pkR true b ∧ b.drop 11 = pkL true b) := ⟨rfl, rfl, rfl, rfl⟩
    clear a1 a2 a3 c1 c2 c3 c1' hA hl3 hHB hR
    generalize b.getD 0 0 = kb at *
    generalize b.getD 1 0 = cb at *
    generalize b.getD 2 0 = sb at *
    generalize get64 (b.drop 3) = R at *
    have HK := Lib.hid (fun wx => ends_any (wb cb) (wb sb) R wx)
    generalize endsB (wb cb) (wb sb) R = E at *
    go_enter Try.func72, Try.ntmps72
    go_wp2_with fail
    refine (HS.out _).mono ?_
    rintro e w' ⟨rfl, rfl⟩
    go_wp2_with fail
    refine (read_v hA0.out H3.out).mono ?_
    rintro e w1 ⟨g, A', cap', rfl, hr, hg, hb1⟩
    have hw := hb1
    clear hb1
    go_wp2_with fail
    refine mix_start (fun w' => Below w.heap.size w w') (List.range 13) [9] [2, 6] [] (by kernel_rfl) (by kernel_rfl) (fun d _ _ _ _ h => by cases d <;> exact h) hw.drew ?_
    replace hw := hw.drew
    replace hr := hr.below (Below.refl _ _).drew
    generalize w1.drew = x0 at *
    repeat (refine mix_pure rfl rfl (fun K hK => ?_); go_simp; refine hK _ ?_; clear hK K)
    refine mix_read (.int .u8 (wb cb)) rfl rfl rfl rfl (fun w' hS => ?_) ?_
    · have hc' := below_cell hS hcell1
      go_simp
    repeat (refine mix_pure rfl rfl (fun K hK => ?_); go_simp; refine hK _ ?_; clear hK K)
    refine mix_read (.int .u8 (wb sb)) rfl rfl rfl rfl (fun w' hS => ?_) ?_
    · have hc' := below_cell hS hcell2
      go_simp
    repeat (refine mix_pure rfl rfl (fun K hK => ?_); go_simp; refine hK _ ?_; clear hK K)
    refine mix_eff rfl rfl (fun K hK => ?_)
    go_simp
    refine (u64_any g A' cap' (b.drop 3) 0 0 x0 hr).mono ?_
    rintro e x1 ⟨rfl, hr2, hu⟩
    rw [A1.out]
    rw [A2.out, A3.out] at hr2
    replace hw := Upd.below hw hu hg hw.size
    refine hK _ _ (fun _ _ => hw) ?_
    clear hK K hu hr
    repeat (refine mix_pure rfl rfl (fun K hK => ?_); go_simp; refine hK _ ?_; clear hK K)
    refine mix_nil ?_
    have hc0 := below_cell hw hcell0
    clear hcell0 hcell1 hcell2
    cases hq : (kb != kind) with
    | true =>
      rw [hq] at HG0
      go_wp2_with fail
      refine bodyPost_ret (results_tmp5 rfl _ _) rfl ?_
      exact HPOST.out false _ _ HG0.out (OwnB.nil' _ _) hw
    | false =>
      rw [hq] at HG0
      go_wp2_with fail
      refine (HK.out _).mono ?_
      rintro e w' ⟨rfl, rfl⟩
      cases E with
      | false =>
        go_wp2_with fail
        refine bodyPost_ret (results_tmp5 rfl _ _) rfl ?_
        exact HPOST.out false _ _ HG0.out (OwnB.nil' _ _) hw
      | true =>
        go_wp2_with fail
        refine (left_any g A' cap' (b.drop 3) 8 0 x1 hr2).mono ?_
        rintro e w' ⟨rfl, k, rfl⟩
        rw [show ((b.drop 3).length : Int) - ((8 : Nat) : Int) = (b.length : Int) - 11 by rw [HL3.out]; omega]
        have hr3 := hr2.below (below_drewN (Below.refl _ x1) k)
        replace hw : Below w.heap.size w (x1.drewN k) := hw.trans ((below_drewN (Below.refl _ x1) k).mono hw.size)
        generalize x1.drewN k = x2 at *
        clear hr2
        go_wp2_with fail
        refine (raw_any g A' cap' (b.drop 3) 8 0 ((b.length : Int) - 11) x2 hr3).mono ?_
        rintro e x3 ⟨v, rfl, ho, hlf⟩
        rw [C1.out] at ho
        replace ho : OwnB x3 x2.heap.size v (b.drop 11) := ho
        have hw3 := Upd.below hw hlf.2 hg hw.size
        go_wp2_with fail
        refine bodyPost_ret (results_tmp5 rfl _ _) rfl ?_
        have hp := HPOST.out true v x3 HG0.out (by have := ho.base hw.size; exact this) hw3
        rw [← HQ.out.1, ← HQ.out.2.1, ← HQ.out.2.2.1] at hp
        exact hp
def UpP (C S : Int) (R : BitVec 64) (L : List (BitVec 8)) (E : Int) (w : World) (e : Ending) (w' : World) : Prop :=
  ∃ v, e = .returned (.tuple #[.agg #[.int .i64 C, .int .i64 S, .int .u64 (wb R), v], .int .i64 E]) ∧ OwnB w' w.heap.size v L ∧ Below w.heap.size w w'
def UpGot (sz : Bool) (kind : BitVec 8) (b : List (BitVec 8)) (w : World) (e : Ending) (w' : World) : Prop :=
  UpP (pkC (sz && pkOk kind b) b) (pkS (sz && pkOk kind b) b) (pkR (sz && pkOk kind b) b) (pkL (sz && pkOk kind b) b) (pkE sz (pkOk kind b)) w e w'
def szOnion (n : Nat) : Bool := onionB ((n : Int) - 11)
def szReply (n : Nat) : Bool := replyB ((n : Int) - 11)
theorem OwnB.updG {w w' : World} {base g : Nat} {v : Value} {l : List (BitVec 8)} (h : OwnB w base v l) (hu : Upd g w w') (hg : g < base) : OwnB w' base v l := by
  refine ⟨h.1, ?_⟩
  rcases h.2 with h2 | ⟨g', cap, cur, hv, hg', hlt, r⟩
  · exact .inl h2
  · exact .inr ⟨g', cap, cur, hv, hg', (hu.block g' (Array.getElem?_eq_some_iff.1 hlt).1 (by omega)).trans hlt, r⟩
theorem gbuild_up (c s : Int) (x : BitVec 64) (A : Option Addr) (n cap : Nat) (w : World) : (Instr.build 57 #[(0, .int .i64 c), (1, .int .i64 s), (2, .int .u64 (wb x)), (3, .slice A n cap)]).run Try.prog w = .ok (.agg #[.int .i64 c, .int .i64 s, .int .u64 (wb x), .slice A n cap]) w := by kernel_rfl
theorem gsize_up : (Try.prog.info? 57).map (·.size) = some 4 := by kernel_rfl
set_option maxRecDepth 100000 in
set_option maxHeartbeats 4000000 in
theorem getup_any (b : List (BitVec 8)) (v : Value) (w : World) (hb : Arg w v b) (hl : b.length ≤ 1048576) :
    Calls Try.prog 46 #[v] w (UpGot (szOnion b.length) 2 b w) := by
  have hb0 : Below w.heap.size w (w.alloc (.cells #[.int .i64 0, .int .i64 0, .int .u64 0, .slice none 0 0] 57)) := (Below.refl _ _).alloc (Nat.le_refl _) _
  have mb := Blk.new w #[.int .i64 0, .int .i64 0, .int .u64 0, .slice none 0 0] 57
  have HG := Lib.hid (get_any3 2 (.func (.func 12) #[] #[]) (szOnion b.length) b v _ (hb.below hb0) hl (by unfold szOnion onionB; simp; omega) (fun wx => sized_onion _ wx))
  rw [show wb (2 : BitVec 8) = 2 from rfl] at HG
  obtain ⟨A, cap, rfl, -, -⟩ := hb
  obtain ⟨sz, hsz⟩ : ∃ sz, sz = szOnion b.length := ⟨_, rfl⟩
  rw [← hsz] at HG ⊢
  clear hsz
  show Calls _ _ _ _ (UpP (pkC (sz && pkOk 2 b) b) (pkS (sz && pkOk 2 b) b) (pkR (sz && pkOk 2 b) b) (pkL (sz && pkOk 2 b) b) (pkE sz (pkOk 2 b)) w)
  unfold GetD at HG
  generalize pkC (sz && pkOk 2 b) b = C at *
  generalize pkS (sz && pkOk 2 b) b = S at *
  generalize pkR (sz && pkOk 2 b) b = R at *
  generalize pkE sz (pkOk 2 b) = E at *
  generalize pkL (sz && pkOk 2 b) b = L at *
  go_enter Try.func46, Try.ntmps46
  go_wp2_with fail
  refine HG.out.mono ?_
  rintro e w1 ⟨v1, rfl, ho, hn⟩
  have hw := hb0.trans (hn.mono hb0.size)
  replace mb := mb.below hn mb.lt
  have hH : w.heap.size < (w.alloc (.cells #[.int .i64 0, .int .i64 0, .int .u64 0, .slice none 0 0] 57)).heap.size := by simp
  clear hn hb0
  obtain ⟨A1, c1, rfl, -, -⟩ := id ho.arg
  have HO := Lib.hid ho
  clear ho
  have HBU := Lib.hid (gbuild_up C S R A1 L.length c1)
  go_wp2_with (first | (refine wpList_build rfl 57 _ rfl (.agg #[.int .i64 C, .int .i64 S, .int .u64 (wb R), .slice A1 L.length c1]) _ HBU.out (by simp [Act.eval, Act.put]) ?_) | (refine wpList_store_row rfl 57 _ _ rfl _ _ rfl rfl 57 _ mb (by exact gsize_up) (by simp) (by simp [Value.oneCell']) ?_) | fail)
  refine bodyPost_ret (v := .tuple #[.agg #[.int .i64 C, .int .i64 S, .int .u64 (wb R), .slice A1 L.length c1], .int .i64 E]) (results_cell_tmp rfl _ _ _ _ _ _ _ _ rfl rfl (mb.row _) Try.underlying57 rfl (by exact gsize_up)) rfl ?_
  exact ⟨_, rfl, (HO.out.updG ((Upd.refl _ w1).setRow _) hH).base (Nat.le_of_lt hH), below_setRow hw (Nat.le_refl _) _⟩
theorem gbuild_down (c s : Int) (x : BitVec 64) (A : Option Addr) (n cap : Nat) (w : World) : (Instr.build 59 #[(0, .int .i64 c), (1, .int .i64 s), (2, .int .u64 (wb x)), (3, .slice A n cap)]).run Try.prog w = .ok (.agg #[.int .i64 c, .int .i64 s, .int .u64 (wb x), .slice A n cap]) w := by kernel_rfl
theorem gsize_down : (Try.prog.info? 59).map (·.size) = some 4 := by kernel_rfl
set_option maxRecDepth 100000 in
set_option maxHeartbeats 4000000 in
theorem getdown_any (b : List (BitVec 8)) (v : Value) (w : World) (hb : Arg w v b) (hl : b.length ≤ 1048576) :
    Calls Try.prog 47 #[v] w (UpGot (szReply b.length) 3 b w) := by
  have hb0 : Below w.heap.size w (w.alloc (.cells #[.int .i64 0, .int .i64 0, .int .u64 0, .slice none 0 0] 59)) := (Below.refl _ _).alloc (Nat.le_refl _) _
  have mb := Blk.new w #[.int .i64 0, .int .i64 0, .int .u64 0, .slice none 0 0] 59
  have HG := Lib.hid (get_any3 3 (.func (.func 13) #[] #[]) (szReply b.length) b v _ (hb.below hb0) hl (by unfold szReply replyB; simp; omega) (fun wx => sized_reply _ wx))
  rw [show wb (3 : BitVec 8) = 3 from rfl] at HG
  obtain ⟨A, cap, rfl, -, -⟩ := hb
  obtain ⟨sz, hsz⟩ : ∃ sz, sz = szReply b.length := ⟨_, rfl⟩
  rw [← hsz] at HG ⊢
  clear hsz
  show Calls _ _ _ _ (UpP (pkC (sz && pkOk 3 b) b) (pkS (sz && pkOk 3 b) b) (pkR (sz && pkOk 3 b) b) (pkL (sz && pkOk 3 b) b) (pkE sz (pkOk 3 b)) w)
  unfold GetD at HG
  generalize pkC (sz && pkOk 3 b) b = C at *
  generalize pkS (sz && pkOk 3 b) b = S at *
  generalize pkR (sz && pkOk 3 b) b = R at *
  generalize pkE sz (pkOk 3 b) = E at *
  generalize pkL (sz && pkOk 3 b) b = L at *
  go_enter Try.func47, Try.ntmps47
  go_wp2_with fail
  refine HG.out.mono ?_
  rintro e w1 ⟨v1, rfl, ho, hn⟩
  have hw := hb0.trans (hn.mono hb0.size)
  replace mb := mb.below hn mb.lt
  have hH : w.heap.size < (w.alloc (.cells #[.int .i64 0, .int .i64 0, .int .u64 0, .slice none 0 0] 59)).heap.size := by simp
  clear hn hb0
  obtain ⟨A1, c1, rfl, -, -⟩ := id ho.arg
  have HO := Lib.hid ho
  clear ho
  have HBU := Lib.hid (gbuild_down C S R A1 L.length c1)
  go_wp2_with (first | (refine wpList_build rfl 59 _ rfl (.agg #[.int .i64 C, .int .i64 S, .int .u64 (wb R), .slice A1 L.length c1]) _ HBU.out (by simp [Act.eval, Act.put]) ?_) | (refine wpList_store_row rfl 59 _ _ rfl _ _ rfl rfl 59 _ mb (by exact gsize_down) (by simp) (by simp [Value.oneCell']) ?_) | fail)
  refine bodyPost_ret (v := .tuple #[.agg #[.int .i64 C, .int .i64 S, .int .u64 (wb R), .slice A1 L.length c1], .int .i64 E]) (results_cell_tmp rfl _ _ _ _ _ _ _ _ rfl rfl (mb.row _) Try.underlying59 rfl (by exact gsize_down)) rfl ?_
  exact ⟨_, rfl, (HO.out.updG ((Upd.refl _ w1).setRow _) hH).base (Nat.le_of_lt hH), below_setRow hw (Nat.le_refl _) _⟩
end Go.Proofs.Ytjnbgoiaocpcjaa
