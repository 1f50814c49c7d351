/- The walk of OctetBack. -/
import Derived.Test.YtbpfdoemkogljaaWHolds
namespace Go.Proofs.Ytbpfdoemkogljaa
open Go.RowKit
/-- The bytes of the number at place i. -/
def piece (i : Nat) (x : BitVec 64) : List (BitVec 8) := if i % 3 = 0 then low x 8 else if i % 3 = 1 then low x 4 else low x 2
def psize (i : Nat) : Nat := if i % 3 = 0 then 8 else if i % 3 = 1 then 4 else 2
theorem piece_length (i : Nat) (x : BitVec 64) : (piece i x).length = psize i := by
  unfold piece psize
  split
  · exact low_length _ _
  · split <;> exact low_length _ _
def pieces (l : List (BitVec 64)) : Nat → List (BitVec 8)
  | 0 => []
  | k + 1 => pieces l k ++ piece k (l.getD k 0)
theorem pieces_le (l : List (BitVec 64)) (k : Nat) : (pieces l k).length ≤ 8 * k := by
  induction k with
  | zero => simp [pieces]
  | succ k ih =>
    simp only [pieces, List.length_append, piece_length]
    have : psize k ≤ 8 := by unfold psize; split <;> (try split) <;> omega
    omega
theorem pieces_mono (l : List (BitVec 64)) {k n : Nat} (h : k ≤ n) : ∃ r, pieces l n = pieces l k ++ r := by
  induction n with
  | zero => exact ⟨[], by rw [show k = 0 by omega]; simp⟩
  | succ n ih =>
    by_cases hk : k ≤ n
    · obtain ⟨r, hr⟩ := ih hk
      exact ⟨r ++ piece n (l.getD n 0), by simp [pieces, hr]⟩
    · exact ⟨[], by rw [show k = n + 1 by omega]; simp⟩
/-- What is read at place k of all that was put. -/
theorem pieces_got (l : List (BitVec 64)) (key : List (BitVec 8)) (k n : Nat) (h : k < n) : rdGot (pieces l n ++ key) (pieces l k).length 0 (psize k : Nat) = piece k (l.getD k 0) ∧ rdOkB (pieces l n ++ key).length (pieces l k).length 0 (psize k : Nat) = true := by
  obtain ⟨r, hr⟩ := pieces_mono l (k := k + 1) (n := n) (by omega)
  have hok : rdOkB (pieces l n ++ key).length (pieces l k).length 0 (psize k : Nat) = true := by
    rw [hr]
    simp only [pieces, List.length_append, piece_length]
    simp [rdOkB]
    omega
  refine ⟨?_, hok⟩
  unfold rdGot
  rw [if_pos hok, hr]
  simp only [pieces, List.append_assoc, List.drop_left, Int.toNat_natCast]
  rw [← piece_length k (l.getD k 0), List.take_left]
theorem get64_piece (x : BitVec 64) (n : Nat) (h : n ≤ 8) : get64 (low x n) = x &&& BitVec.ofNat 64 (2 ^ (8 * n) - 1) := by
  unfold get64
  rw [List.take_of_length_le (by rw [low_length]; omega), num_low x n h]
theorem get64_low4 (x : BitVec 64) : (get64 (low x 4)).setWidth 32 = x.setWidth 32 := by
  rw [get64_piece x 4 (by omega)]
  apply BitVec.eq_of_getLsbD_eq
  intro i hi
  simp only [BitVec.getLsbD_setWidth, BitVec.getLsbD_and, BitVec.getLsbD_ofNat, Nat.testBit_two_pow_sub_one]
  simp [hi]
  omega
theorem get64_low2 (x : BitVec 64) : (get64 (low x 2)).setWidth 16 = x.setWidth 16 := by
  rw [get64_piece x 2 (by omega)]
  apply BitVec.eq_of_getLsbD_eq
  intro i hi
  simp only [BitVec.getLsbD_setWidth, BitVec.getLsbD_and, BitVec.getLsbD_ofNat, Nat.testBit_two_pow_sub_one]
  simp [hi]
  omega
theorem rdErr_ok {len at_ : Nat} {n : Int} (h : rdOkB len at_ 0 n = true) : rdErr len at_ 0 n = 0 := by
  simp [rdOkB] at h
  unfold rdErr
  rw [if_pos rfl, if_neg (by omega), if_neg (by omega)]
theorem rdAt_ok {len at_ : Nat} {n : Int} (h : rdOkB len at_ 0 n = true) : rdAt len at_ 0 n = at_ + n.toNat := by
  unfold rdAt
  rw [if_pos h]
attribute [local go_sem] conv64_16 conv64_32
set_option maxHeartbeats 4000000 in
theorem back_walk (l : List (BitVec 64)) (key : List (BitVec 8)) (A : Option Addr) (cap : Nat) (w : World) (hR : Rd w .u64 A l) (hc : l.length ≤ cap) (hlen : cap * 8 ≤ 140737488351232) (hk : key.length = 32) :
    Calls Try.prog 8 #[.slice A l.length cap, .agg (encs .u8 key)] w fun e w' => e = .returned (.bool true) ∧ Below w.heap.size w w' := by
  have HK := Lib.hid hk
  obtain ⟨len, hl⟩ : ∃ len, len = l.length := ⟨_, rfl⟩
  have HL := Lib.hid hl
  rw [← hl] at hc ⊢
  have hlen' : len * 8 ≤ 140737488351232 := by omega
  clear hl hk hlen hc
  go_enter Try.func8, Try.ntmps8
  go_wp2_with fail
  have hb0 : Below w.heap.size w (w.alloc (.cells (encs .u8 key) 51)) := (Below.refl _ _).alloc (Nat.le_refl _) _
  have hB0 : Blk (w.alloc (.cells (encs .u8 key) 51)) w.heap.size (encs .u8 key) 51 := Blk.new _ _ _
  refine (wakes_any _).mono ?_
  rintro e w1 ⟨rfl, hb1⟩
  have hB1 := hB0.below hb1 (by simp)
  have hw0 : w.heap.size < w1.heap.size := by have := hb1.size; simp at this; omega
  replace hb1 := hb0.trans (hb1.mono hb0.size)
  clear hb0 hB0
  go_wp2_with fail
  go_loopw [5, 15] (fun v i wr => ∃ k : Nat, k ≤ len ∧ i = .int .i64 k ∧ OwnB wr (w.heap.size + 1) v (pieces l k) ∧ Blk wr w.heap.size (encs .u8 key) 51 ∧ Below w.heap.size w wr) (fun _ i _ => len - (intOf i).toNat)
  case atStart => exact ⟨0, Nat.zero_le _, rfl, World.ownsRow_nil _ _ _ _, hB1, hb1⟩
  case round =>
    obtain ⟨k, hk, rfl, hO, hB, hb⟩ := hrel
    by_cases hlt : k < len
    · have i1 : (k : Int) < (len : Int) := by omega
      obtain ⟨g, off, rfl, hc1⟩ := hR k (by rw [← HL.out]; exact hlt)
      replace hc1 := below_cell hb hc1
      have hple := pieces_le l k
      have hlt0 : w.heap.size + 1 ≤ wr.heap.size := hB.lt
      have HP : Hid (pieces l (k + 1) = pieces l k ++ piece k (l.getD k 0)) := rfl
      generalize l.getD k 0 = xk at *
      have q3 : k % 3 = 0 ∨ k % 3 = 1 ∨ k % 3 = 2 := by omega
      rcases q3 with q | q | q
      · have hp : piece k xk = low xk 8 := by simp [piece, q]
        rw [hp] at HP
        have QH := Lib.hid q
        have e0 : ((k : Int) % 3 == 0) = true := by simp; omega
        clear q hp
        go_wp2_with fail
        refine ((put64_v hO.arg xk (by omega))).mono ?_
        rintro e w3 ⟨v1, rfl, h1, hb2⟩
        replace h1 : OwnB w3 _ v1 (pieces l k ++ low xk 8) := h1
        replace hB := hB.below hb2 hB.lt
        replace hb := hb.trans (hb2.mono hb.size)
        clear hb2
        have hO' : OwnB w3 (w.heap.size + 1) v1 (pieces l (k + 1)) := by rw [HP.out]; exact owns_base h1 hlt0
        clear h1
        go_wp2_with fail
        go_roundw
        case rel =>
          first | exact ⟨k + 1, by omega, by go_num, hO', hB, hb⟩ | ((repeat apply Exists.intro); exact ⟨⟨k + 1, by omega, by go_num, hO', hB, hb⟩, rfl⟩)
        case measure => simp [intOf]; omega
      · have hp : piece k xk = low xk 4 := by simp [piece, q]
        rw [hp] at HP
        have QH := Lib.hid q
        have e0 : ((k : Int) % 3 == 0) = false := by simp; omega
        have e1 : ((k : Int) % 3 == 1) = true := by simp; omega
        clear q hp
        go_wp2_with fail
        refine ((put32_v hO.arg (xk.setWidth 32) (by omega))).mono ?_
        rintro e w3 ⟨v1, rfl, h1, hb2⟩
        replace h1 : OwnB w3 _ v1 (pieces l k ++ low ((xk.setWidth 32).setWidth 64) 4) := h1
        replace hB := hB.below hb2 hB.lt
        replace hb := hb.trans (hb2.mono hb.size)
        clear hb2
        rw [low_trunc xk 32 4 (by omega) (by omega)] at h1
        have hO' : OwnB w3 (w.heap.size + 1) v1 (pieces l (k + 1)) := by rw [HP.out]; exact owns_base h1 hlt0
        clear h1
        go_wp2_with fail
        go_roundw
        case rel =>
          first | exact ⟨k + 1, by omega, by go_num, hO', hB, hb⟩ | ((repeat apply Exists.intro); exact ⟨⟨k + 1, by omega, by go_num, hO', hB, hb⟩, rfl⟩)
        case measure => simp [intOf]; omega
      · have hp : piece k xk = low xk 2 := by simp [piece, q]
        rw [hp] at HP
        have QH := Lib.hid q
        have e0 : ((k : Int) % 3 == 0) = false := by simp; omega
        have e1 : ((k : Int) % 3 == 1) = false := by simp; omega
        clear q hp
        go_wp2_with fail
        refine ((put16_v hO.arg (xk.setWidth 16) (by omega))).mono ?_
        rintro e w3 ⟨v1, rfl, h1, hb2⟩
        replace h1 : OwnB w3 _ v1 (pieces l k ++ low ((xk.setWidth 16).setWidth 64) 2) := h1
        replace hB := hB.below hb2 hB.lt
        replace hb := hb.trans (hb2.mono hb.size)
        clear hb2
        rw [low_trunc xk 16 2 (by omega) (by omega)] at h1
        have hO' : OwnB w3 (w.heap.size + 1) v1 (pieces l (k + 1)) := by rw [HP.out]; exact owns_base h1 hlt0
        clear h1
        go_wp2_with fail
        go_roundw
        case rel =>
          first | exact ⟨k + 1, by omega, by go_num, hO', hB, hb⟩ | ((repeat apply Exists.intro); exact ⟨⟨k + 1, by omega, by go_num, hO', hB, hb⟩, rfl⟩)
        case measure => simp [intOf]; omega
    · obtain rfl : k = len := by omega
      have hple := pieces_le l k
      have HPL : Hid ((pieces l k).length ≤ 8 * k) := hple
      have hlt0 : w.heap.size + 1 ≤ wr.heap.size := hB.lt
      obtain ⟨P, hP⟩ : ∃ P, P = pieces l k := ⟨_, rfl⟩
      have HP := Lib.hid hP
      rw [← hP] at hO hple HPL
      clear hP
      have hplen : (P ++ key).length ≤ 140737488355328 := by rw [List.length_append, HK.out]; omega
      have HPK := Lib.hid hplen
      clear hplen
      have hO' := Lib.hid hO
      have hB' := Lib.hid hB
      clear hB1 hb1 hO
      go_wp2_with (first | (refine wpList_append_row rfl (.tmp 38) (.tmp 39) bytesT rfl (w.heap.size + 1) _ P.length (encL .u8 P) rfl hO'.out (some ⟨w.heap.size, 0, none⟩) 32 32 (encL .u8 key) rfl (by rw [encL_length, HK.out]) (by have := hB'.out.cells; rwa [encs_toList] at this) (encL_one _ _) (by omega) hlt0 ?_; intro v w3 hown hgr _) | fail)
      have hO3 : OwnB w3 (w.heap.size + 1) v (P ++ key) := by unfold OwnB; rw [List.length_append, HK.out, encL_append]; exact hown
      have hno : ∀ q, (Value.ownBlock u5) = some q → w.heap.size + 1 ≤ q := fun q hq => (hO'.out.lt q hq).1
      have hB3 : Blk w3 w.heap.size (encs .u8 key) 51 := hB'.out.grown hgr (fun h => by have := hno _ h; omega)
      have hb3 : Below w.heap.size w w3 := below_grown hb (by omega) hgr (fun q hq => by have := hno q hq; omega)
      clear hown hgr hno hb
      go_wp2_with fail
      refine (read_v hO3.arg HPK.out).mono ?_
      rintro e w4 ⟨g, A', cap', rfl, hr, hg, hb4⟩
      have hB4 := hB3.below hb4 hB3.lt
      have hg0 : w.heap.size < g := by have := hB3.lt; omega
      replace hb4 := hb3.trans (hb4.mono hb3.size)
      clear hO3 hB3 hb3 hg hO' hB' hB
      have HPG : Hid (∀ j, j < k → rdGot (P ++ key) (pieces l j).length 0 (psize j : Nat) = piece j (l.getD j 0) ∧ rdOkB (P ++ key).length (pieces l j).length 0 (psize j : Nat) = true) := by rw [HP.out]; exact fun j hj => pieces_got l key j k hj
      go_wp2_with fail
      clear hk hlt hple hlt0
      go_loopw [46] (fun i wr => ∃ j : Nat, j ≤ k ∧ i = .int .i64 j ∧ Rdr wr g A' cap' (P ++ key) (pieces l j).length 0 ∧ Blk wr w.heap.size (encs .u8 key) 51 ∧ Below w.heap.size w wr) (fun i _ => k - (intOf i).toNat)
      case atStart => exact ⟨0, Nat.zero_le _, rfl, hr, hB4, hb4⟩
      case round =>
        clear hr hB4 hb4
        obtain ⟨j, hj, rfl, hr, hB, hb⟩ := hrel
        by_cases hlt : j < k
        · have i1 : (j : Int) < (k : Int) := by omega
          obtain ⟨ga, off, rfl, hc1⟩ := hR j (by rw [← HL.out]; exact hlt)
          replace hc1 := below_cell hb hc1
          obtain ⟨hg1, hg2⟩ := HPG.out j hlt
          have HN : Hid ((pieces l (j + 1)).length = (pieces l j).length + psize j) := by show _ = _; rw [pieces, List.length_append, piece_length]
          generalize l.getD j 0 = xk at *
          have q3 : j % 3 = 0 ∨ j % 3 = 1 ∨ j % 3 = 2 := by omega
          rcases q3 with q | q | q
          · have hs : psize j = 8 := by simp [psize, q]
            have hp : piece j xk = low xk 8 := by simp [piece, q]
            rw [hs, hp] at hg1
            rw [hs] at hg2 HN
            have H1 : Hid (rdGot (P ++ key) (pieces l j).length 0 8 = low xk 8) := hg1
            have H2 : Hid (rdAt (P ++ key).length (pieces l j).length 0 8 = (pieces l (j + 1)).length) := by show _ = _; rw [HN.out]; exact rdAt_ok hg2
            have H3 : Hid (rdErr (P ++ key).length (pieces l j).length 0 8 = 0) := rdErr_ok hg2
            have e0 : ((j : Int) % 3 == 0) = true := by simp; omega
            clear q hp hs hg1 hg2
            go_wp2_with fail
            refine (u64_any g A' cap' _ _ 0 _ hr).mono ?_
            rintro e w5 ⟨rfl, hr5, hu5⟩
            rw [H2.out, H3.out] at hr5
            rw [H1.out, get64_low8]
            have hB5 := hB.upd hu5 (by omega)
            have hb5 := Upd.below hb hu5 (by omega) hb.size
            clear hr hB hb hu5 hc1
            go_wp2_with fail
            go_roundw
            case rel =>
              first | exact ⟨j + 1, by omega, by go_num, hr5, hB5, hb5⟩ | ((repeat apply Exists.intro); exact ⟨⟨j + 1, by omega, by go_num, hr5, hB5, hb5⟩, rfl⟩)
            case measure => simp [intOf]; omega
          · have hs : psize j = 4 := by simp [psize, q]
            have hp : piece j xk = low xk 4 := by simp [piece, q]
            rw [hs, hp] at hg1
            rw [hs] at hg2 HN
            have H1 : Hid (rdGot (P ++ key) (pieces l j).length 0 4 = low xk 4) := hg1
            have H2 : Hid (rdAt (P ++ key).length (pieces l j).length 0 4 = (pieces l (j + 1)).length) := by show _ = _; rw [HN.out]; exact rdAt_ok hg2
            have H3 : Hid (rdErr (P ++ key).length (pieces l j).length 0 4 = 0) := rdErr_ok hg2
            have e0 : ((j : Int) % 3 == 0) = false := by simp; omega
            have e1 : ((j : Int) % 3 == 1) = true := by simp; omega
            clear q hp hs hg1 hg2
            go_wp2_with fail
            refine (u32_any g A' cap' _ _ 0 _ hr).mono ?_
            rintro e w5 ⟨rfl, hr5, hu5⟩
            rw [H2.out, H3.out] at hr5
            rw [H1.out, get64_low4]
            have hB5 := hB.upd hu5 (by omega)
            have hb5 := Upd.below hb hu5 (by omega) hb.size
            clear hr hB hb hu5 hc1
            go_wp2_with fail
            go_roundw
            case rel =>
              first | exact ⟨j + 1, by omega, by go_num, hr5, hB5, hb5⟩ | ((repeat apply Exists.intro); exact ⟨⟨j + 1, by omega, by go_num, hr5, hB5, hb5⟩, rfl⟩)
            case measure => simp [intOf]; omega
          · have hs : psize j = 2 := by simp [psize, q]
            have hp : piece j xk = low xk 2 := by simp [piece, q]
            rw [hs, hp] at hg1
            rw [hs] at hg2 HN
            have H1 : Hid (rdGot (P ++ key) (pieces l j).length 0 2 = low xk 2) := hg1
            have H2 : Hid (rdAt (P ++ key).length (pieces l j).length 0 2 = (pieces l (j + 1)).length) := by show _ = _; rw [HN.out]; exact rdAt_ok hg2
            have H3 : Hid (rdErr (P ++ key).length (pieces l j).length 0 2 = 0) := rdErr_ok hg2
            have e0 : ((j : Int) % 3 == 0) = false := by simp; omega
            have e1 : ((j : Int) % 3 == 1) = false := by simp; omega
            clear q hp hs hg1 hg2
            go_wp2_with fail
            refine (u16_any g A' cap' _ _ 0 _ hr).mono ?_
            rintro e w5 ⟨rfl, hr5, hu5⟩
            rw [H2.out, H3.out] at hr5
            rw [H1.out, get64_low2]
            have hB5 := hB.upd hu5 (by omega)
            have hb5 := Upd.below hb hu5 (by omega) hb.size
            clear hr hB hb hu5 hc1
            go_wp2_with fail
            go_roundw
            case rel =>
              first | exact ⟨j + 1, by omega, by go_num, hr5, hB5, hb5⟩ | ((repeat apply Exists.intro); exact ⟨⟨j + 1, by omega, by go_num, hr5, hB5, hb5⟩, rfl⟩)
            case measure => simp [intOf]; omega
        · obtain rfl : j = k := by omega
          have hK1 : rdOkB (P ++ key).length P.length 0 32 = true := by
            rw [List.length_append, HK.out]
            simp [rdOkB]
            omega
          have HG : Hid (rdGot (P ++ key) P.length 0 32 = key) := by
            unfold rdGot
            rw [if_pos hK1, List.drop_left, show (32 : Int).toNat = 32 from rfl, List.take_of_length_le (by rw [HK.out]; omega)]
            rfl
          have HKK : Hid (keyOf key = key) := keyOf_all key HK.out
          have HE : Hid (rdErr (P ++ key).length P.length 0 32 = 0) := rdErr_ok hK1
          have HAt : Hid (((P ++ key).length : Int) - (rdAt (P ++ key).length P.length 0 32 : Nat) = 0) := by
            show _ = _
            rw [rdAt_ok hK1, List.length_append, HK.out]
            simp
          have k1 : ∀ wx, (Op.equalIn 10000 51 (.agg (encs .u8 key)) (.agg (encs .u8 key))).run Try.prog wx = .ok true wx := fun wx => by
            have := run_equalIn_encs (P := Try.prog) wx 9998 51 5 .u8 32 Try.underlying51 Try.underlying5 (by kernel_rfl) key key HK.out HK.out
            simpa using this
          rw [← HP.out] at hr
          clear hK1 hj hlt HPG
          go_wp2_with fail
          refine mix_start (fun w' => Blk w' w.heap.size (encs .u8 key) 51) [0, 2, 1, 3, 4, 5, 6, 7, 8, 9, 10, 11, 12, 13, 14] [1, 6, 11] [2] [] (by kernel_rfl) (by kernel_rfl) (fun d _ _ _ _ h => by cases d <;> exact h) hB.drew ?_
          repeat (refine mix_pure rfl rfl (fun K hK => ?_); go_simp; refine hK _ ?_; clear hK K)
          refine mix_load_row rfl rfl rfl rfl 51 _ rfl w.heap.size rfl (encs .u8 key) 51 (0, 0) _ (fun w' h => h) Try.underlying51 rfl (by rw [encs_size, HK.out]; exact sizeKey) ?_
          refine mix_eff rfl rfl (fun K hK => ?_)
          go_simp
          refine (key_any g A' cap' _ _ 0 _ (hr.below (Below.refl _ _).drew)).mono ?_
          rintro e w5 ⟨rfl, hr5, hu5⟩
          rw [HE.out] at hr5
          rw [HG.out, HKK.out]
          have hb5 := Upd.below hb.drew hu5 (by omega) hb.drew.size
          refine hK _ _ (fun _ h => h.upd hu5 (by omega)) ?_
          clear hK K hu5 hr hB hb
          repeat (refine mix_pure rfl rfl (fun K hK => ?_); go_simp; refine hK _ ?_; clear hK K)
          refine mix_eff rfl rfl (fun K hK => ?_)
          go_simp
          refine (left_any g A' cap' _ _ _ _ hr5).mono ?_
          rintro e w6 ⟨rfl, n6, rfl⟩
          rw [HAt.out]
          refine hK _ _ (fun _ h => h) ?_
          clear hK K
          replace hb5 := below_drewN hb5 n6
          replace hr5 := hr5.below (below_drewN (Below.refl _ _) n6)
          generalize w5.drewN n6 = w7 at *
          repeat (refine mix_pure rfl rfl (fun K hK => ?_); go_simp; refine hK _ ?_; clear hK K)
          refine mix_eff rfl rfl (fun K hK => ?_)
          go_simp
          refine (err_any g A' cap' _ _ _ _ hr5).mono ?_
          rintro e w8 ⟨rfl, rfl⟩
          refine hK _ _ (fun _ h => h) ?_
          clear hK K
          repeat (refine mix_pure rfl rfl (fun K hK => ?_); go_simp; refine hK _ ?_; clear hK K)
          refine mix_nil ?_
          go_wp2_with fail
          go_ret
          exact ⟨rfl, hb5⟩
end Go.Proofs.Ytbpfdoemkogljaa
