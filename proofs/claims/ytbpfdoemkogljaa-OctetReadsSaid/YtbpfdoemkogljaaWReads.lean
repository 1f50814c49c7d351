/- The walk of OctetReads. -/
import Derived.Test.YtbpfdoemkogljaaDo
namespace Go.Proofs.Ytbpfdoemkogljaa
open Go.RowKit
/-- A slice that reads as asks. -/
def AskRd (w : World) (A : Option Addr) (l : List (Int × Int)) : Prop := ∀ i, i < l.length → ∃ g off, A = some ⟨g, off, none⟩ ∧ w.cell? ⟨g, off + i * 2, none⟩ = some (.int .i64 (l.getD i (0, 0)).1) ∧ w.cell? ⟨g, off + i * 2 + 1, none⟩ = some (.int .i64 (l.getD i (0, 0)).2)
theorem sizeRd : (Try.prog.info? 39).map (·.size) = some 3 := by kernel_rfl
theorem kind_range (k : Int) : 0 ≤ (wrap64 (k.tmod 5 + 5)).tmod 5 ∧ (wrap64 (k.tmod 5 + 5)).tmod 5 < 5 := by
  have h1 : k.tmod 5 < 5 := Int.tmod_lt_of_pos k (by omega)
  have h2 : -5 < k.tmod 5 := Int.lt_tmod_of_pos k (by omega)
  have e : wrap64 (k.tmod 5 + 5) = k.tmod 5 + 5 := by unfold wrap64; omega
  rw [e, Int.tmod_eq_emod_of_nonneg (by omega)]
  omega
theorem rdr_ne {w : World} {g : Nat} {A : Option Addr} {cap : Nat} {b : List (BitVec 8)} {at_ : Nat} {err : Int} (hr : Rdr w g A cap b at_ err) {g' o : Nat} {x : Int} (hc : w.cell? ⟨g', o, none⟩ = some (.int .u8 x)) : g' ≠ g := by
  rintro rfl
  rw [hr.blk.cell] at hc
  match o, hc with
  | 0, hc => simp at hc
  | 1, hc => simp at hc
  | 2, hc => simp at hc
  | o + 3, hc => simp at hc
theorem Rd.updR {w w' : World} {g : Nat} {A : Option Addr} {cap : Nat} {b : List (BitVec 8)} {at_ : Nat} {err : Int} {A' : Option Addr} {l : List (BitVec 8)} (hR : Rd w .u8 A' l) (hr : Rdr w g A cap b at_ err) (hu : Upd g w w') : Rd w' .u8 A' l := fun i hi => by
  obtain ⟨g', off, rfl, hc⟩ := hR i hi
  exact ⟨g', off, rfl, (World.cell?_of_block (hu.block g' (World.block_lt_of_cell? _ _ hc) (rdr_ne hr hc))).trans hc⟩
theorem Arg.updR {w w' : World} {g : Nat} {A : Option Addr} {cap : Nat} {b : List (BitVec 8)} {at_ : Nat} {err : Int} {v : Value} {l : List (BitVec 8)} (h : Arg w v l) (hr : Rdr w g A cap b at_ err) (hu : Upd g w w') : Arg w' v l :=
  let ⟨A', c, h1, h2, h3⟩ := h
  ⟨A', c, h1, h2, h3.updR hr hu⟩
theorem Rdr.updR {w w' : World} {g g2 : Nat} {A A2 : Option Addr} {cap cap2 : Nat} {b b2 : List (BitVec 8)} {at_ at2 : Nat} {err err2 : Int} (h : Rdr w g2 A2 cap2 b2 at2 err2) (hr : Rdr w g A cap b at_ err) (hne : g2 ≠ g) (hu : Upd g w w') : Rdr w' g2 A2 cap2 b2 at2 err2 :=
  ⟨h.blk.upd hu hne, h.rd.updR hr hu, h.far, h.hcap, h.hle, h.hlen⟩
/-- A write into a block of a struct leaves what reads as bytes. -/
theorem Rd.updT {w w' : World} {g : Nat} {x : Int} {v : Value} {ty : TypeId} {A' : Option Addr} {l : List (BitVec 8)} (hR : Rd w .u8 A' l) (hB : Blk w g #[.int .u64 x, v] ty) (hv : ∀ y, v ≠ .int .u8 y) (hu : Upd g w w') : Rd w' .u8 A' l := fun i hi => by
  obtain ⟨g', off, rfl, hc⟩ := hR i hi
  have hne : g' ≠ g := by
    rintro rfl
    rw [hB.cell] at hc
    match off + i, hc with
    | 0, hc => simp at hc
    | 1, hc => simp at hc; exact hv _ hc
    | o + 2, hc => simp at hc
  exact ⟨g', off, rfl, (World.cell?_of_block (hu.block g' (World.block_lt_of_cell? _ _ hc) hne)).trans hc⟩
theorem num_hi (l : List (BitVec 8)) (i : Nat) (h : 8 * l.length ≤ i) : (num l).getLsbD i = false := by
  induction l generalizing i with
  | nil => simp [num]
  | cons c l ih =>
    simp only [List.length_cons] at h
    simp only [num, BitVec.getLsbD_or, BitVec.getLsbD_setWidth, BitVec.getLsbD_shiftLeft]
    rw [ih (i - 8) (by omega), BitVec.getLsbD_of_ge c i (by omega)]
    simp
theorem get64_small (l : List (BitVec 8)) (n m : Nat) (h : l.length ≤ n) (hm : 8 * n ≤ m) : ((get64 l).setWidth m).setWidth 64 = get64 l := by
  apply BitVec.eq_of_getLsbD_eq
  intro i hi
  simp only [BitVec.getLsbD_setWidth, hi, decide_true, Bool.true_and]
  by_cases him : i < m
  · simp [him]
  · have : (get64 l).getLsbD i = false := num_hi _ i (by rw [List.length_take]; omega)
    rw [this]
    simp
theorem rdGot_le (b : List (BitVec 8)) (at_ : Nat) (err m : Int) (n : Nat) (h : m = (n : Int)) : (rdGot b at_ err m).length ≤ n := by
  subst h
  unfold rdGot
  split
  · rw [List.length_take]; simp; omega
  · simp
theorem Rd.updS {w w' : World} {g n c : Nat} {x y : Int} {Ac : Option Addr} {ty : TypeId} {A' : Option Addr} {l : List (BitVec 8)} (hR : Rd w .u8 A' l) (hB : Blk w g #[.slice Ac n c, .int .i64 x, .int .i64 y] ty) (hu : Upd g w w') : Rd w' .u8 A' l := fun i hi => by
  obtain ⟨g', off, rfl, hc⟩ := hR i hi
  have hne : g' ≠ g := by
    rintro rfl
    rw [hB.cell] at hc
    match off + i, hc with
    | 0, hc => simp at hc
    | 1, hc => simp at hc
    | 2, hc => simp at hc
    | o + 3, hc => simp at hc
  exact ⟨g', off, rfl, (World.cell?_of_block (hu.block g' (World.block_lt_of_cell? _ _ hc) hne)).trans hc⟩
attribute [local go_sem] conv64_16 conv64_32 conv16_64 conv32_64
set_option maxRecDepth 100000 in
set_option maxHeartbeats 16000000 in
theorem reads_walk (b : List (BitVec 8)) (asks : List (Int × Int)) (A B : Option Addr) (cap cap' : Nat) (w : World) (hR : Rd w .u8 A b) (hc : b.length ≤ cap) (hlen : b.length ≤ 140737488351232) (hQ : AskRd w B asks) (hal : asks.length ≤ 140737488351232) :
    Calls Try.prog 4 #[.slice A b.length cap, .slice B asks.length cap'] w fun e w' => e = .returned (.bool true) ∧ Below w.heap.size w w' := by
  have hA := Lib.hid (arg_mk hR hc)
  have H1 : Hid (b.length ≤ 140737488351232) := hlen
  obtain ⟨lb, hlb⟩ : ∃ lb, lb = b.length := ⟨_, rfl⟩
  obtain ⟨la, hla⟩ : ∃ la, la = asks.length := ⟨_, rfl⟩
  rw [← hlb] at hlen ⊢
  rw [← hla] at hal ⊢
  rw [← hlb] at hA
  have HLB := Lib.hid hlb
  have HLA := Lib.hid hla
  clear hlb hla hc hR
  go_enter Try.func4, Try.ntmps4
  go_wp2_with fail
  refine (wakes_any w).mono ?_
  rintro e w1 ⟨rfl, hb⟩
  go_wp2_with fail
  refine (read_v (hA.out.below hb) (by rw [← HLB.out]; omega)).mono ?_
  rintro e w2 ⟨g1, A1, cap1, rfl, hr1, hg1, hb2⟩
  have hg1' : w.heap.size ≤ g1 := Nat.le_trans hb.size hg1
  replace hb := hb.trans (hb2.mono hb.size)
  clear hb2 hg1
  go_wp2_with fail
  refine (read_v (hA.out.below hb) (by rw [← HLB.out]; omega)).mono ?_
  rintro e w3 ⟨g2, A2, cap2, rfl, hr2, hg2, hb2⟩
  have hg12 : g1 < g2 := Nat.lt_of_lt_of_le hr1.blk.lt hg2
  replace hr1 := hr1.below hb2
  replace hb := hb.trans (hb2.mono hb.size)
  clear hb2 hg2
  go_wp2_with fail
  refine ((both_v (hA.out.below hb) (Arg.nil _) (by rw [← HLB.out]; simp; omega))).mono ?_
  rintro e w4 ⟨c, rfl, hc, hb2⟩
  replace hc : OwnB w4 _ c (b ++ []) := hc
  replace hr1 := hr1.below hb2
  replace hr2 := hr2.below hb2
  replace hb := hb.trans (hb2.mono hb.size)
  clear hb2
  rw [List.append_nil] at hc
  obtain ⟨Ac, capc, rfl, hcc, hrc⟩ := hc.arg
  rw [← HLB.out] at hcc
  rw [← HLB.out]
  clear hc
  go_wp2_with fail
  obtain ⟨g7, hg7⟩ : ∃ g7, g7 = w4.heap.size := ⟨_, rfl⟩
  have hg27 : g2 < g7 := by rw [hg7]; exact hr2.blk.lt
  have hgw : w.heap.size ≤ g7 := by rw [hg7]; exact hb.size
  have hb0 : Below w4.heap.size w4 (w4.alloc (.cells #[.slice Ac lb capc, .int .i64 0, .int .i64 0] 39)) := (Below.refl _ _).alloc (Nat.le_refl _) _
  have hB7 : Blk (w4.alloc (.cells #[.slice Ac lb capc, .int .i64 0, .int .i64 0] 39)) g7 #[.slice Ac lb capc, .int .i64 0, .int .i64 0] 39 := by rw [hg7]; exact Blk.new _ _ _
  replace hr1 := hr1.below hb0
  replace hr2 := hr2.below hb0
  replace hrc := hrc.below hb0
  replace hb := hb.trans (hb0.mono hb.size)
  rw [← hg7]
  clear hb0 hg7
  generalize w4.alloc (.cells #[.slice Ac lb capc, .int .i64 0, .int .i64 0] 39) = w5 at *
  go_loopw [31] (fun i wr => ∃ k : Nat, k ≤ la ∧ i = .int .i64 k ∧ ∃ (at_ : Nat) (err : Int), Rdr wr g1 A1 cap1 b at_ err ∧ Rdr wr g2 A2 cap2 b 0 0 ∧ Blk wr g7 #[.slice Ac lb capc, .int .i64 at_, .int .i64 err] 39 ∧ Rd wr .u8 Ac b ∧ Below w.heap.size w wr) (fun i _ => la - (intOf i).toNat)
  case atStart => exact ⟨0, Nat.zero_le _, rfl, 0, 0, hr1, hr2, hB7, hrc, hb⟩
  case round =>
    clear hr1 hr2 hB7 hrc hb
    obtain ⟨k, hk, rfl, at_, err, hr1, hr2, hB7, hrc, hb⟩ := hrel
    by_cases hlt : k < la
    · have i1 : (k : Int) < (la : Int) := by omega
      obtain ⟨g, off, rfl, hq1, hq2⟩ := hQ k (by rw [← HLA.out]; exact hlt)
      replace hq1 := below_cell hb hq1
      replace hq2 := below_cell hb hq2
      generalize asks.getD k (0, 0) = ask at *
      obtain ⟨kind, N⟩ := ask
      simp only at hq1 hq2
      have hlt7 := hB7.lt
      have c0 : wr.cell? ⟨g7, 0, none⟩ = some (.slice Ac lb capc) := by rw [hB7.cell]; rfl
      have c1 : wr.cell? ⟨g7, 1, none⟩ = some (.int .i64 at_) := by rw [hB7.cell]; rfl
      have c2 : wr.cell? ⟨g7, 2, none⟩ = some (.int .i64 err) := by rw [hB7.cell]; rfl
      have HQ : Hid (0 ≤ (wrap64 (kind.tmod 5 + 5)).tmod 5 ∧ (wrap64 (kind.tmod 5 + 5)).tmod 5 < 5) := kind_range kind
      go_wp2_with fail
      generalize (wrap64 (kind.tmod 5 + 5)).tmod 5 = q at *
      obtain ⟨hq0, hq5⟩ := HQ
      have hb1 : Below wr.heap.size wr (wr.alloc (.cells #[.int .i64 q, .int .i64 N] 41)) := (Below.refl _ _).alloc (Nat.le_refl _) _
      have hBa := Blk.new wr #[.int .i64 q, .int .i64 N] 41
      replace hr1 := hr1.below hb1
      replace hr2 := hr2.below hb1
      replace hB7 := hB7.below hb1 hlt7
      replace hrc := hrc.below hb1
      replace hb := hb.trans (hb1.mono hb.size)
      obtain ⟨ga, hga⟩ : ∃ ga, ga = wr.heap.size := ⟨_, rfl⟩
      rw [← hga] at hBa hlt7 ⊢
      clear hga hb1 c0 c1 c2 hq1 hq2
      generalize wr.alloc (.cells #[.int .i64 q, .int .i64 N] 41) = w5 at *
      have hdo := do_any b Ac capc at_ err q N w5 hq0 hq5 hrc (by rw [← HLB.out]; exact hcc) hr1.hle (by have := H1.out; omega)
      rw [← HLB.out] at hdo
      refine hdo.mono ?_
      clear hdo
      rintro e w6 ⟨u, rfl, hu, hb6⟩
      replace hr1 := hr1.below hb6
      replace hr2 := hr2.below hb6
      have hlta := hBa.lt
      have hlt76 : g7 < w6.heap.size := by have := hb6.size; omega
      have hlta6 : ga < w6.heap.size := by have := hb6.size; omega
      replace hB7 := hB7.below hb6 (by omega)
      replace hBa := hBa.below hb6 hlta
      replace hrc := hrc.below hb6
      replace hb := hb.trans (hb6.mono hb.size)
      clear hb6 hlta
      have ca0 : w6.cell? ⟨ga, 0, none⟩ = some (.int .i64 q) := by rw [hBa.cell]; rfl
      have ca1 : w6.cell? ⟨ga, 1, none⟩ = some (.int .i64 N) := by rw [hBa.cell]; rfl
      have h5 : q = 0 ∨ q = 1 ∨ q = 2 ∨ q = 3 ∨ q = 4 := by omega
      rcases h5 with rfl | rfl | rfl | rfl | rfl
      · have HN : Hid (nOf 0 N = 2) := by simp [nOf, Hid]
        obtain ⟨tn, htn⟩ : ∃ tn, tn = toldNum b at_ err 0 N := ⟨_, rfl⟩
        obtain ⟨tb, htb⟩ : ∃ tb, tb = toldBytes b at_ err 0 N := ⟨_, rfl⟩
        have HTN := Lib.hid htn
        have HTB := Lib.hid htb
        rw [HN.out, ← htn]
        rw [← htb] at hu
        obtain ⟨Au, cu, rfl, huc, hur⟩ := hu
        obtain ⟨tl, htl0⟩ : ∃ tl, tl = tb.length := ⟨_, rfl⟩
        rw [← htl0]
        have hu : Arg w6 (.slice Au tl cu) tb := ⟨Au, cu, by rw [htl0], huc, hur⟩
        clear htn htb hq0 hq5 huc hur htl0
        obtain ⟨at2, ha2⟩ : ∃ x, x = rdAt b.length at_ err 2 := ⟨_, rfl⟩
        obtain ⟨er2, he2⟩ : ∃ x, x = rdErr b.length at_ err 2 := ⟨_, rfl⟩
        have HA2 := Lib.hid ha2
        have HE2 := Lib.hid he2
        rw [← ha2, ← he2]
        clear ha2 he2
        have hbc : Below w6.heap.size w6 (((w6.alloc (.cells #[.slice Ac lb capc, .int .i64 at2, .int .i64 er2] 39)).alloc (.cells #[.int .u64 (wb tn), .slice Au tl cu] 43)).alloc (.cells #[.int .u64 0, .slice none 0 0] 43)) := by go_grown
        have hBn : Blk (((w6.alloc (.cells #[.slice Ac lb capc, .int .i64 at2, .int .i64 er2] 39)).alloc (.cells #[.int .u64 (wb tn), .slice Au tl cu] 43)).alloc (.cells #[.int .u64 0, .slice none 0 0] 43)) w6.heap.size #[.slice Ac lb capc, .int .i64 at2, .int .i64 er2] 39 := ((Blk.new w6 #[.slice Ac lb capc, .int .i64 at2, .int .i64 er2] 39).alloc _).alloc _
        have hBw : Blk (((w6.alloc (.cells #[.slice Ac lb capc, .int .i64 at2, .int .i64 er2] 39)).alloc (.cells #[.int .u64 (wb tn), .slice Au tl cu] 43)).alloc (.cells #[.int .u64 0, .slice none 0 0] 43)) (w6.heap.size + 1) #[.int .u64 (wb tn), .slice Au tl cu] 43 := (Blk.new_at (w6.alloc (.cells #[.slice Ac lb capc, .int .i64 at2, .int .i64 er2] 39)) #[.int .u64 (wb tn), .slice Au tl cu] 43 (w6.heap.size + 1) (by simp)).alloc _
        have hBg : Blk (((w6.alloc (.cells #[.slice Ac lb capc, .int .i64 at2, .int .i64 er2] 39)).alloc (.cells #[.int .u64 (wb tn), .slice Au tl cu] 43)).alloc (.cells #[.int .u64 0, .slice none 0 0] 43)) (w6.heap.size + 1 + 1) #[.int .u64 0, .slice none 0 0] 43 := Blk.new_at _ #[.int .u64 0, .slice none 0 0] 43 (w6.heap.size + 1 + 1) (by simp)
        have cb0 : (((w6.alloc (.cells #[.slice Ac lb capc, .int .i64 at2, .int .i64 er2] 39)).alloc (.cells #[.int .u64 (wb tn), .slice Au tl cu] 43)).alloc (.cells #[.int .u64 0, .slice none 0 0] 43)).cell? ⟨ga, 0, none⟩ = some (.int .i64 0) := by rw [(hBa.below hbc hlta6).cell]; rfl
        have cb1 : (((w6.alloc (.cells #[.slice Ac lb capc, .int .i64 at2, .int .i64 er2] 39)).alloc (.cells #[.int .u64 (wb tn), .slice Au tl cu] 43)).alloc (.cells #[.int .u64 0, .slice none 0 0] 43)).cell? ⟨ga, 1, none⟩ = some (.int .i64 N) := by rw [(hBa.below hbc hlta6).cell]; rfl
        have hnea : ga ≠ w6.heap.size := by omega
        have hnea1 : ga ≠ w6.heap.size + 1 := by omega
        have hnea2 : ga ≠ w6.heap.size + 1 + 1 := by omega
        go_wp2_with fail
        generalize ((w6.alloc (.cells #[.slice Ac lb capc, .int .i64 at2, .int .i64 er2] 39)).alloc (.cells #[.int .u64 (wb tn), .slice Au tl cu] 43)).alloc (.cells #[.int .u64 0, .slice none 0 0] 43) = w7 at *
        replace hr1 := hr1.below hbc
        replace hr2 := hr2.below hbc
        replace hB7 := hB7.below hbc hlt76
        replace hBa := hBa.below hbc hlta6
        replace hrc := hrc.below hbc
        replace hu := hu.below hbc
        replace hb := hb.trans (hbc.mono hb.size)
        have hg16 : g1 < w6.heap.size := by omega
        have HR1o := hr1
        clear hbc ca0 ca1 cb0 cb1 hnea hnea1 hnea2
        refine (u16_any g1 A1 cap1 b at_ err w7 hr1).mono ?_
        rintro e w8 ⟨rfl, hr1, hu8⟩
        rw [← HA2.out, ← HE2.out] at hr1
        have hnm : (((get64 (rdGot b at_ err 2)).setWidth 16).setWidth 64 : BitVec 64) = tn := by
          rw [HTN.out, toldNum, if_pos (by omega), HN.out]
          exact get64_small _ 2 16 (rdGot_le b at_ err 2 2 rfl) (by omega)
        generalize (get64 (rdGot b at_ err 2)).setWidth 16 = nm at *
        have HTE : Hid (tb = []) := by rw [HTB.out]; unfold toldBytes; rw [if_pos (by omega)]; rfl
        have hgb : Arg w8 (.slice none 0 0) tb := by rw [HTE.out]; exact Arg.nil _
        have hs8 := hu8.size
        have hl7 := hBg.lt
        have hr1o := HR1o
        replace hr2 := hr2.updR hr1o (by omega) hu8
        replace hrc := hrc.updR hr1o hu8
        replace hu := hu.updR hr1o hu8
        replace hBn := hBn.upd hu8 (by omega)
        replace hBw := hBw.upd hu8 (by omega)
        replace hBg := hBg.upd hu8 (by omega)
        replace hB7 := hB7.upd hu8 (by omega)
        replace hb := Upd.below hb hu8 hg1' hb.size
        clear hu8 hr1o HR1o
        have cg0 : w8.cell? ⟨(w6.heap.size + 1 + 1), 0, none⟩ = some (.int .u64 0) := by rw [hBg.cell]; rfl
        have fg0 := hBg.frozen 0
        go_wp2_with fail
        clear cg0 fg0
        have hU9 : Upd (w6.heap.size + 1 + 1) w8 (w8.setCell ⟨(w6.heap.size + 1 + 1), 0, none⟩ (.int .u64 (wb tn))) := (Upd.refl _ _).setCell _ _
        have hbg9 : Blk (w8.setCell ⟨(w6.heap.size + 1 + 1), 0, none⟩ (.int .u64 (wb tn))) (w6.heap.size + 1 + 1) #[.int .u64 (wb tn), .slice none 0 0] 43 := hBg.set 0 _
        generalize w8.setCell ⟨(w6.heap.size + 1 + 1), 0, none⟩ (.int .u64 (wb tn)) = w9 at *
        have hs9 := hU9.size
        replace hr1 : Rdr w9 g1 A1 cap1 b at2 er2 := ⟨hr1.blk.upd hU9 (by omega), hr1.rd.updT hBg (fun y h => by cases h) hU9, hr1.far, hr1.hcap, hr1.hle, hr1.hlen⟩
        replace hr2 : Rdr w9 g2 A2 cap2 b 0 0 := ⟨hr2.blk.upd hU9 (by omega), hr2.rd.updT hBg (fun y h => by cases h) hU9, hr2.far, hr2.hcap, hr2.hle, hr2.hlen⟩
        replace hrc := hrc.updT hBg (fun y h => by cases h) hU9
        obtain ⟨Aw, cw, hue, huc, hur⟩ := hu
        replace hur := hur.updT hBg (fun y h => by cases h) hU9
        obtain ⟨Ab, cb, hbe, hbc', hbr⟩ := hgb
        replace hbr := hbr.updT hBg (fun y h => by cases h) hU9
        have hu : Arg w9 (.slice Au tl cu) tb := ⟨Aw, cw, hue, huc, hur⟩
        have hgb : Arg w9 (.slice none 0 0) tb := ⟨Ab, cb, hbe, hbc', hbr⟩
        replace hBn := hBn.upd hU9 (by omega)
        replace hBw := hBw.upd hU9 (by omega)
        replace hB7 := hB7.upd hU9 (by omega)
        replace hb := Upd.below hb hU9 (by omega) hb.size
        clear hU9 hBg hue huc hur hbe hbc' hbr
        have cg0 : w9.cell? ⟨(w6.heap.size + 1 + 1), 0, none⟩ = some (.int .u64 (wb tn)) := by rw [hbg9.cell]; rfl
        have cg1 : w9.cell? ⟨(w6.heap.size + 1 + 1), 1, none⟩ = some (.slice none 0 0) := by rw [hbg9.cell]; rfl
        have cw0 : w9.cell? ⟨(w6.heap.size + 1), 0, none⟩ = some (.int .u64 (wb tn)) := by rw [hBw.cell]; rfl
        have cw1 : w9.cell? ⟨(w6.heap.size + 1), 1, none⟩ = some (.slice Au tl cu) := by rw [hBw.cell]; rfl
        have cn0 : w9.cell? ⟨w6.heap.size, 0, none⟩ = some (.slice Ac lb capc) := by rw [hBn.cell]; rfl
        have cn1 : w9.cell? ⟨w6.heap.size, 1, none⟩ = some (.int .i64 at2) := by rw [hBn.cell]; rfl
        have cn2 : w9.cell? ⟨w6.heap.size, 2, none⟩ = some (.int .i64 er2) := by rw [hBn.cell]; rfl
        have htl : Hid (tb.length ≤ 140737488355328) := by
          have := hr1.hlen
          rw [HTB.out]
          unfold toldBytes
          show _ ≤ _
          split
          · simp
          · split
            · rw [keyOf_length]; omega
            · exact Nat.le_trans (rdGot_length _ _ _ _) this
        have hat2 : (at2 : Int) ≤ (lb : Int) := by have := hr1.hle; rw [← HLB.out] at this; omega
        have sw : IntKind.i64.wrap ((lb : Int) - (at2 : Int)) = (lb : Int) - (at2 : Int) := IntWalk.i64_in _ (by omega)
        refine mix_start (fun w' => Below w9.heap.size w9 w') [0, 1, 2, 3, 4, 5, 6, 7, 8, 9, 10, 11, 12, 13, 14, 16, 17, 18, 19, 20, 15, 21, 22, 23, 24, 26, 27, 25, 28, 29] [10, 15, 25] [1, 3, 7, 9, 19, 27] [] (by kernel_rfl) (by kernel_rfl) (fun d _ _ _ _ h => by cases d <;> exact h) (Below.refl _ _).drew ?_
        repeat (refine mix_pure rfl rfl (fun K hK => ?_); go_simp; refine hK _ ?_; clear hK K)
        refine mix_read (.int .u64 (wb tn)) rfl rfl rfl rfl (fun w' hS => ?_) ?_
        · have hc' := below_cell hS cg0
          go_simp
        repeat (refine mix_pure rfl rfl (fun K hK => ?_); go_simp; refine hK _ ?_; clear hK K)
        refine mix_read (.int .u64 (wb tn)) rfl rfl rfl rfl (fun w' hS => ?_) ?_
        · have hc' := below_cell hS cw0
          go_simp
        repeat (refine mix_pure rfl rfl (fun K hK => ?_); go_simp; refine hK _ ?_; clear hK K)
        refine mix_read (.slice none 0 0) rfl rfl rfl rfl (fun w' hS => ?_) ?_
        · have hc' := below_cell hS cg1
          go_simp
        repeat (refine mix_pure rfl rfl (fun K hK => ?_); go_simp; refine hK _ ?_; clear hK K)
        refine mix_read (.slice Au tl cu) rfl rfl rfl rfl (fun w' hS => ?_) ?_
        · have hc' := below_cell hS cw1
          go_simp
        refine mix_eff rfl rfl (fun K hK => ?_)
        go_simp
        refine (same_v (hgb.below (Below.refl _ _).drew) (hu.below (Below.refl _ _).drew) htl.out).mono ?_
        rintro e w10 ⟨rfl, hb10⟩
        rw [beq_self_eq_true]
        have hb910 : Below w9.heap.size w9 w10 := (Below.refl _ _).drew.trans hb10
        refine hK _ _ (fun _ h => hb910) ?_
        clear hK K hb10 hgb hu
        repeat (refine mix_pure rfl rfl (fun K hK => ?_); go_simp; refine hK _ ?_; clear hK K)
        refine mix_read (.int .i64 at2) rfl rfl rfl rfl (fun w' hS => ?_) ?_
        · have hc' := below_cell hS cn1
          go_simp
        repeat (refine mix_pure rfl rfl (fun K hK => ?_); go_simp; refine hK _ ?_; clear hK K)
        refine mix_eff rfl rfl (fun K hK => ?_)
        go_simp
        refine (left_any g1 A1 cap1 b at2 er2 w10 (hr1.below hb910)).mono ?_
        rintro e w11 ⟨rfl, n11, rfl⟩
        rw [← HLB.out]
        refine hK _ _ (fun _ h => below_drewN hb910 n11) ?_
        clear hK K
        repeat (refine mix_pure rfl rfl (fun K hK => ?_); go_simp; refine hK _ ?_; clear hK K)
        refine mix_read (.int .i64 er2) rfl rfl rfl rfl (fun w' hS => ?_) ?_
        · have hc' := below_cell hS cn2
          go_simp
        refine mix_eff rfl rfl (fun K hK => ?_)
        go_simp
        refine (err_any g1 A1 cap1 b at2 er2 _ (hr1.below (below_drewN hb910 n11))).mono ?_
        rintro e w12 ⟨rfl, rfl⟩
        refine hK _ _ (fun _ h => h) ?_
        clear hK K
        repeat (refine mix_pure rfl rfl (fun K hK => ?_); go_simp; refine hK _ ?_; clear hK K)
        refine mix_nil ?_
        replace hb910 := below_drewN hb910 n11
        replace hr1 := hr1.below hb910
        replace hr2 := hr2.below hb910
        replace hrc := hrc.below hb910
        replace hBn := hBn.below hb910 hBn.lt
        replace hB7 := hB7.below hb910 hB7.lt
        replace hb := hb.trans (hb910.mono hb.size)
        clear cg0 cg1 cw0 cw1 cn0 cn1 cn2 hBw hbg9 hb910 sw
        generalize w10.drewN n11 = w11 at *
        have cn0 : w11.cell? ⟨w6.heap.size, 0, none⟩ = some (.slice Ac lb capc) := by rw [hBn.cell]; rfl
        have cn1 : w11.cell? ⟨w6.heap.size, 1, none⟩ = some (.int .i64 at2) := by rw [hBn.cell]; rfl
        have cn2 : w11.cell? ⟨w6.heap.size, 2, none⟩ = some (.int .i64 er2) := by rw [hBn.cell]; rfl
        have c70 : w11.cell? ⟨g7, 0, none⟩ = some (.slice Ac lb capc) := by rw [hB7.cell]; rfl
        have c71 : w11.cell? ⟨g7, 1, none⟩ = some (.int .i64 at_) := by rw [hB7.cell]; rfl
        have c72 : w11.cell? ⟨g7, 2, none⟩ = some (.int .i64 err) := by rw [hB7.cell]; rfl
        have f70 := hB7.frozen 0
        have f71 := hB7.frozen 1
        have f72 := hB7.frozen 2
        go_wp2_with fail
        have hU12 : Upd g7 w11 (((w11.setCell ⟨g7, 0, none⟩ (.slice Ac lb capc)).setCell ⟨g7, 1, none⟩ (.int .i64 at2)).setCell ⟨g7, 2, none⟩ (.int .i64 er2)) := (((Upd.refl _ _).setCell _ _).setCell _ _).setCell _ _
        have hB72 : Blk (((w11.setCell ⟨g7, 0, none⟩ (.slice Ac lb capc)).setCell ⟨g7, 1, none⟩ (.int .i64 at2)).setCell ⟨g7, 2, none⟩ (.int .i64 er2)) g7 #[.slice Ac lb capc, .int .i64 at2, .int .i64 er2] 39 := ((hB7.set 0 _).set 1 _).set 2 _
        have hbb := Upd.below hb hU12 hgw hb.size
        have hr12 : Rdr (((w11.setCell ⟨g7, 0, none⟩ (.slice Ac lb capc)).setCell ⟨g7, 1, none⟩ (.int .i64 at2)).setCell ⟨g7, 2, none⟩ (.int .i64 er2)) g1 A1 cap1 b at2 er2 := ⟨hr1.blk.upd hU12 (by omega), hr1.rd.updS hB7 hU12, hr1.far, hr1.hcap, hr1.hle, hr1.hlen⟩
        have hr22 : Rdr (((w11.setCell ⟨g7, 0, none⟩ (.slice Ac lb capc)).setCell ⟨g7, 1, none⟩ (.int .i64 at2)).setCell ⟨g7, 2, none⟩ (.int .i64 er2)) g2 A2 cap2 b 0 0 := ⟨hr2.blk.upd hU12 (by omega), hr2.rd.updS hB7 hU12, hr2.far, hr2.hcap, hr2.hle, hr2.hlen⟩
        have hrc2 := hrc.updS hB7 hU12
        clear c70 c71 c72 f70 f71 f72
        clear hr1 hr2 hB7 hrc hb hU12 cn0 cn1 cn2
        go_roundw
        case rel =>
          first | exact ⟨k + 1, by omega, by go_num, at2, er2, hr12, hr22, hB72, hrc2, hbb⟩ | ((repeat apply Exists.intro); exact ⟨⟨k + 1, by omega, by go_num, at2, er2, hr12, hr22, hB72, hrc2, hbb⟩, rfl⟩)
        case measure => simp [intOf]; omega
      · have HN : Hid (nOf 1 N = 4) := by simp [nOf, Hid]
        obtain ⟨tn, htn⟩ : ∃ tn, tn = toldNum b at_ err 1 N := ⟨_, rfl⟩
        obtain ⟨tb, htb⟩ : ∃ tb, tb = toldBytes b at_ err 1 N := ⟨_, rfl⟩
        have HTN := Lib.hid htn
        have HTB := Lib.hid htb
        rw [HN.out, ← htn]
        rw [← htb] at hu
        obtain ⟨Au, cu, rfl, huc, hur⟩ := hu
        obtain ⟨tl, htl0⟩ : ∃ tl, tl = tb.length := ⟨_, rfl⟩
        rw [← htl0]
        have hu : Arg w6 (.slice Au tl cu) tb := ⟨Au, cu, by rw [htl0], huc, hur⟩
        clear htn htb hq0 hq5 huc hur htl0
        obtain ⟨at2, ha2⟩ : ∃ x, x = rdAt b.length at_ err 4 := ⟨_, rfl⟩
        obtain ⟨er2, he2⟩ : ∃ x, x = rdErr b.length at_ err 4 := ⟨_, rfl⟩
        have HA2 := Lib.hid ha2
        have HE2 := Lib.hid he2
        rw [← ha2, ← he2]
        clear ha2 he2
        have hbc : Below w6.heap.size w6 (((w6.alloc (.cells #[.slice Ac lb capc, .int .i64 at2, .int .i64 er2] 39)).alloc (.cells #[.int .u64 (wb tn), .slice Au tl cu] 43)).alloc (.cells #[.int .u64 0, .slice none 0 0] 43)) := by go_grown
        have hBn : Blk (((w6.alloc (.cells #[.slice Ac lb capc, .int .i64 at2, .int .i64 er2] 39)).alloc (.cells #[.int .u64 (wb tn), .slice Au tl cu] 43)).alloc (.cells #[.int .u64 0, .slice none 0 0] 43)) w6.heap.size #[.slice Ac lb capc, .int .i64 at2, .int .i64 er2] 39 := ((Blk.new w6 #[.slice Ac lb capc, .int .i64 at2, .int .i64 er2] 39).alloc _).alloc _
        have hBw : Blk (((w6.alloc (.cells #[.slice Ac lb capc, .int .i64 at2, .int .i64 er2] 39)).alloc (.cells #[.int .u64 (wb tn), .slice Au tl cu] 43)).alloc (.cells #[.int .u64 0, .slice none 0 0] 43)) (w6.heap.size + 1) #[.int .u64 (wb tn), .slice Au tl cu] 43 := (Blk.new_at (w6.alloc (.cells #[.slice Ac lb capc, .int .i64 at2, .int .i64 er2] 39)) #[.int .u64 (wb tn), .slice Au tl cu] 43 (w6.heap.size + 1) (by simp)).alloc _
        have hBg : Blk (((w6.alloc (.cells #[.slice Ac lb capc, .int .i64 at2, .int .i64 er2] 39)).alloc (.cells #[.int .u64 (wb tn), .slice Au tl cu] 43)).alloc (.cells #[.int .u64 0, .slice none 0 0] 43)) (w6.heap.size + 1 + 1) #[.int .u64 0, .slice none 0 0] 43 := Blk.new_at _ #[.int .u64 0, .slice none 0 0] 43 (w6.heap.size + 1 + 1) (by simp)
        have cb0 : (((w6.alloc (.cells #[.slice Ac lb capc, .int .i64 at2, .int .i64 er2] 39)).alloc (.cells #[.int .u64 (wb tn), .slice Au tl cu] 43)).alloc (.cells #[.int .u64 0, .slice none 0 0] 43)).cell? ⟨ga, 0, none⟩ = some (.int .i64 1) := by rw [(hBa.below hbc hlta6).cell]; rfl
        have cb1 : (((w6.alloc (.cells #[.slice Ac lb capc, .int .i64 at2, .int .i64 er2] 39)).alloc (.cells #[.int .u64 (wb tn), .slice Au tl cu] 43)).alloc (.cells #[.int .u64 0, .slice none 0 0] 43)).cell? ⟨ga, 1, none⟩ = some (.int .i64 N) := by rw [(hBa.below hbc hlta6).cell]; rfl
        have hnea : ga ≠ w6.heap.size := by omega
        have hnea1 : ga ≠ w6.heap.size + 1 := by omega
        have hnea2 : ga ≠ w6.heap.size + 1 + 1 := by omega
        go_wp2_with fail
        generalize ((w6.alloc (.cells #[.slice Ac lb capc, .int .i64 at2, .int .i64 er2] 39)).alloc (.cells #[.int .u64 (wb tn), .slice Au tl cu] 43)).alloc (.cells #[.int .u64 0, .slice none 0 0] 43) = w7 at *
        replace hr1 := hr1.below hbc
        replace hr2 := hr2.below hbc
        replace hB7 := hB7.below hbc hlt76
        replace hBa := hBa.below hbc hlta6
        replace hrc := hrc.below hbc
        replace hu := hu.below hbc
        replace hb := hb.trans (hbc.mono hb.size)
        have hg16 : g1 < w6.heap.size := by omega
        have HR1o := hr1
        clear hbc ca0 ca1 cb0 cb1 hnea hnea1 hnea2
        refine (u32_any g1 A1 cap1 b at_ err w7 hr1).mono ?_
        rintro e w8 ⟨rfl, hr1, hu8⟩
        rw [← HA2.out, ← HE2.out] at hr1
        have hnm : (((get64 (rdGot b at_ err 4)).setWidth 32).setWidth 64 : BitVec 64) = tn := by
          rw [HTN.out, toldNum, if_pos (by omega), HN.out]
          exact get64_small _ 4 32 (rdGot_le b at_ err 4 4 rfl) (by omega)
        generalize (get64 (rdGot b at_ err 4)).setWidth 32 = nm at *
        have HTE : Hid (tb = []) := by rw [HTB.out]; unfold toldBytes; rw [if_pos (by omega)]; rfl
        have hgb : Arg w8 (.slice none 0 0) tb := by rw [HTE.out]; exact Arg.nil _
        have hs8 := hu8.size
        have hl7 := hBg.lt
        have hr1o := HR1o
        replace hr2 := hr2.updR hr1o (by omega) hu8
        replace hrc := hrc.updR hr1o hu8
        replace hu := hu.updR hr1o hu8
        replace hBn := hBn.upd hu8 (by omega)
        replace hBw := hBw.upd hu8 (by omega)
        replace hBg := hBg.upd hu8 (by omega)
        replace hB7 := hB7.upd hu8 (by omega)
        replace hb := Upd.below hb hu8 hg1' hb.size
        clear hu8 hr1o HR1o
        have cg0 : w8.cell? ⟨(w6.heap.size + 1 + 1), 0, none⟩ = some (.int .u64 0) := by rw [hBg.cell]; rfl
        have fg0 := hBg.frozen 0
        go_wp2_with fail
        clear cg0 fg0
        have hU9 : Upd (w6.heap.size + 1 + 1) w8 (w8.setCell ⟨(w6.heap.size + 1 + 1), 0, none⟩ (.int .u64 (wb tn))) := (Upd.refl _ _).setCell _ _
        have hbg9 : Blk (w8.setCell ⟨(w6.heap.size + 1 + 1), 0, none⟩ (.int .u64 (wb tn))) (w6.heap.size + 1 + 1) #[.int .u64 (wb tn), .slice none 0 0] 43 := hBg.set 0 _
        generalize w8.setCell ⟨(w6.heap.size + 1 + 1), 0, none⟩ (.int .u64 (wb tn)) = w9 at *
        have hs9 := hU9.size
        replace hr1 : Rdr w9 g1 A1 cap1 b at2 er2 := ⟨hr1.blk.upd hU9 (by omega), hr1.rd.updT hBg (fun y h => by cases h) hU9, hr1.far, hr1.hcap, hr1.hle, hr1.hlen⟩
        replace hr2 : Rdr w9 g2 A2 cap2 b 0 0 := ⟨hr2.blk.upd hU9 (by omega), hr2.rd.updT hBg (fun y h => by cases h) hU9, hr2.far, hr2.hcap, hr2.hle, hr2.hlen⟩
        replace hrc := hrc.updT hBg (fun y h => by cases h) hU9
        obtain ⟨Aw, cw, hue, huc, hur⟩ := hu
        replace hur := hur.updT hBg (fun y h => by cases h) hU9
        obtain ⟨Ab, cb, hbe, hbc', hbr⟩ := hgb
        replace hbr := hbr.updT hBg (fun y h => by cases h) hU9
        have hu : Arg w9 (.slice Au tl cu) tb := ⟨Aw, cw, hue, huc, hur⟩
        have hgb : Arg w9 (.slice none 0 0) tb := ⟨Ab, cb, hbe, hbc', hbr⟩
        replace hBn := hBn.upd hU9 (by omega)
        replace hBw := hBw.upd hU9 (by omega)
        replace hB7 := hB7.upd hU9 (by omega)
        replace hb := Upd.below hb hU9 (by omega) hb.size
        clear hU9 hBg hue huc hur hbe hbc' hbr
        have cg0 : w9.cell? ⟨(w6.heap.size + 1 + 1), 0, none⟩ = some (.int .u64 (wb tn)) := by rw [hbg9.cell]; rfl
        have cg1 : w9.cell? ⟨(w6.heap.size + 1 + 1), 1, none⟩ = some (.slice none 0 0) := by rw [hbg9.cell]; rfl
        have cw0 : w9.cell? ⟨(w6.heap.size + 1), 0, none⟩ = some (.int .u64 (wb tn)) := by rw [hBw.cell]; rfl
        have cw1 : w9.cell? ⟨(w6.heap.size + 1), 1, none⟩ = some (.slice Au tl cu) := by rw [hBw.cell]; rfl
        have cn0 : w9.cell? ⟨w6.heap.size, 0, none⟩ = some (.slice Ac lb capc) := by rw [hBn.cell]; rfl
        have cn1 : w9.cell? ⟨w6.heap.size, 1, none⟩ = some (.int .i64 at2) := by rw [hBn.cell]; rfl
        have cn2 : w9.cell? ⟨w6.heap.size, 2, none⟩ = some (.int .i64 er2) := by rw [hBn.cell]; rfl
        have htl : Hid (tb.length ≤ 140737488355328) := by
          have := hr1.hlen
          rw [HTB.out]
          unfold toldBytes
          show _ ≤ _
          split
          · simp
          · split
            · rw [keyOf_length]; omega
            · exact Nat.le_trans (rdGot_length _ _ _ _) this
        have hat2 : (at2 : Int) ≤ (lb : Int) := by have := hr1.hle; rw [← HLB.out] at this; omega
        have sw : IntKind.i64.wrap ((lb : Int) - (at2 : Int)) = (lb : Int) - (at2 : Int) := IntWalk.i64_in _ (by omega)
        refine mix_start (fun w' => Below w9.heap.size w9 w') [0, 1, 2, 3, 4, 5, 6, 7, 8, 9, 10, 11, 12, 13, 14, 16, 17, 18, 19, 20, 15, 21, 22, 23, 24, 26, 27, 25, 28, 29] [10, 15, 25] [1, 3, 7, 9, 19, 27] [] (by kernel_rfl) (by kernel_rfl) (fun d _ _ _ _ h => by cases d <;> exact h) (Below.refl _ _).drew ?_
        repeat (refine mix_pure rfl rfl (fun K hK => ?_); go_simp; refine hK _ ?_; clear hK K)
        refine mix_read (.int .u64 (wb tn)) rfl rfl rfl rfl (fun w' hS => ?_) ?_
        · have hc' := below_cell hS cg0
          go_simp
        repeat (refine mix_pure rfl rfl (fun K hK => ?_); go_simp; refine hK _ ?_; clear hK K)
        refine mix_read (.int .u64 (wb tn)) rfl rfl rfl rfl (fun w' hS => ?_) ?_
        · have hc' := below_cell hS cw0
          go_simp
        repeat (refine mix_pure rfl rfl (fun K hK => ?_); go_simp; refine hK _ ?_; clear hK K)
        refine mix_read (.slice none 0 0) rfl rfl rfl rfl (fun w' hS => ?_) ?_
        · have hc' := below_cell hS cg1
          go_simp
        repeat (refine mix_pure rfl rfl (fun K hK => ?_); go_simp; refine hK _ ?_; clear hK K)
        refine mix_read (.slice Au tl cu) rfl rfl rfl rfl (fun w' hS => ?_) ?_
        · have hc' := below_cell hS cw1
          go_simp
        refine mix_eff rfl rfl (fun K hK => ?_)
        go_simp
        refine (same_v (hgb.below (Below.refl _ _).drew) (hu.below (Below.refl _ _).drew) htl.out).mono ?_
        rintro e w10 ⟨rfl, hb10⟩
        rw [beq_self_eq_true]
        have hb910 : Below w9.heap.size w9 w10 := (Below.refl _ _).drew.trans hb10
        refine hK _ _ (fun _ h => hb910) ?_
        clear hK K hb10 hgb hu
        repeat (refine mix_pure rfl rfl (fun K hK => ?_); go_simp; refine hK _ ?_; clear hK K)
        refine mix_read (.int .i64 at2) rfl rfl rfl rfl (fun w' hS => ?_) ?_
        · have hc' := below_cell hS cn1
          go_simp
        repeat (refine mix_pure rfl rfl (fun K hK => ?_); go_simp; refine hK _ ?_; clear hK K)
        refine mix_eff rfl rfl (fun K hK => ?_)
        go_simp
        refine (left_any g1 A1 cap1 b at2 er2 w10 (hr1.below hb910)).mono ?_
        rintro e w11 ⟨rfl, n11, rfl⟩
        rw [← HLB.out]
        refine hK _ _ (fun _ h => below_drewN hb910 n11) ?_
        clear hK K
        repeat (refine mix_pure rfl rfl (fun K hK => ?_); go_simp; refine hK _ ?_; clear hK K)
        refine mix_read (.int .i64 er2) rfl rfl rfl rfl (fun w' hS => ?_) ?_
        · have hc' := below_cell hS cn2
          go_simp
        refine mix_eff rfl rfl (fun K hK => ?_)
        go_simp
        refine (err_any g1 A1 cap1 b at2 er2 _ (hr1.below (below_drewN hb910 n11))).mono ?_
        rintro e w12 ⟨rfl, rfl⟩
        refine hK _ _ (fun _ h => h) ?_
        clear hK K
        repeat (refine mix_pure rfl rfl (fun K hK => ?_); go_simp; refine hK _ ?_; clear hK K)
        refine mix_nil ?_
        replace hb910 := below_drewN hb910 n11
        replace hr1 := hr1.below hb910
        replace hr2 := hr2.below hb910
        replace hrc := hrc.below hb910
        replace hBn := hBn.below hb910 hBn.lt
        replace hB7 := hB7.below hb910 hB7.lt
        replace hb := hb.trans (hb910.mono hb.size)
        clear cg0 cg1 cw0 cw1 cn0 cn1 cn2 hBw hbg9 hb910 sw
        generalize w10.drewN n11 = w11 at *
        have cn0 : w11.cell? ⟨w6.heap.size, 0, none⟩ = some (.slice Ac lb capc) := by rw [hBn.cell]; rfl
        have cn1 : w11.cell? ⟨w6.heap.size, 1, none⟩ = some (.int .i64 at2) := by rw [hBn.cell]; rfl
        have cn2 : w11.cell? ⟨w6.heap.size, 2, none⟩ = some (.int .i64 er2) := by rw [hBn.cell]; rfl
        have c70 : w11.cell? ⟨g7, 0, none⟩ = some (.slice Ac lb capc) := by rw [hB7.cell]; rfl
        have c71 : w11.cell? ⟨g7, 1, none⟩ = some (.int .i64 at_) := by rw [hB7.cell]; rfl
        have c72 : w11.cell? ⟨g7, 2, none⟩ = some (.int .i64 err) := by rw [hB7.cell]; rfl
        have f70 := hB7.frozen 0
        have f71 := hB7.frozen 1
        have f72 := hB7.frozen 2
        go_wp2_with fail
        have hU12 : Upd g7 w11 (((w11.setCell ⟨g7, 0, none⟩ (.slice Ac lb capc)).setCell ⟨g7, 1, none⟩ (.int .i64 at2)).setCell ⟨g7, 2, none⟩ (.int .i64 er2)) := (((Upd.refl _ _).setCell _ _).setCell _ _).setCell _ _
        have hB72 : Blk (((w11.setCell ⟨g7, 0, none⟩ (.slice Ac lb capc)).setCell ⟨g7, 1, none⟩ (.int .i64 at2)).setCell ⟨g7, 2, none⟩ (.int .i64 er2)) g7 #[.slice Ac lb capc, .int .i64 at2, .int .i64 er2] 39 := ((hB7.set 0 _).set 1 _).set 2 _
        have hbb := Upd.below hb hU12 hgw hb.size
        have hr12 : Rdr (((w11.setCell ⟨g7, 0, none⟩ (.slice Ac lb capc)).setCell ⟨g7, 1, none⟩ (.int .i64 at2)).setCell ⟨g7, 2, none⟩ (.int .i64 er2)) g1 A1 cap1 b at2 er2 := ⟨hr1.blk.upd hU12 (by omega), hr1.rd.updS hB7 hU12, hr1.far, hr1.hcap, hr1.hle, hr1.hlen⟩
        have hr22 : Rdr (((w11.setCell ⟨g7, 0, none⟩ (.slice Ac lb capc)).setCell ⟨g7, 1, none⟩ (.int .i64 at2)).setCell ⟨g7, 2, none⟩ (.int .i64 er2)) g2 A2 cap2 b 0 0 := ⟨hr2.blk.upd hU12 (by omega), hr2.rd.updS hB7 hU12, hr2.far, hr2.hcap, hr2.hle, hr2.hlen⟩
        have hrc2 := hrc.updS hB7 hU12
        clear c70 c71 c72 f70 f71 f72
        clear hr1 hr2 hB7 hrc hb hU12 cn0 cn1 cn2
        go_roundw
        case rel =>
          first | exact ⟨k + 1, by omega, by go_num, at2, er2, hr12, hr22, hB72, hrc2, hbb⟩ | ((repeat apply Exists.intro); exact ⟨⟨k + 1, by omega, by go_num, at2, er2, hr12, hr22, hB72, hrc2, hbb⟩, rfl⟩)
        case measure => simp [intOf]; omega
      · have HN : Hid (nOf 2 N = 8) := by simp [nOf, Hid]
        obtain ⟨tn, htn⟩ : ∃ tn, tn = toldNum b at_ err 2 N := ⟨_, rfl⟩
        obtain ⟨tb, htb⟩ : ∃ tb, tb = toldBytes b at_ err 2 N := ⟨_, rfl⟩
        have HTN := Lib.hid htn
        have HTB := Lib.hid htb
        rw [HN.out, ← htn]
        rw [← htb] at hu
        obtain ⟨Au, cu, rfl, huc, hur⟩ := hu
        obtain ⟨tl, htl0⟩ : ∃ tl, tl = tb.length := ⟨_, rfl⟩
        rw [← htl0]
        have hu : Arg w6 (.slice Au tl cu) tb := ⟨Au, cu, by rw [htl0], huc, hur⟩
        clear htn htb hq0 hq5 huc hur htl0
        obtain ⟨at2, ha2⟩ : ∃ x, x = rdAt b.length at_ err 8 := ⟨_, rfl⟩
        obtain ⟨er2, he2⟩ : ∃ x, x = rdErr b.length at_ err 8 := ⟨_, rfl⟩
        have HA2 := Lib.hid ha2
        have HE2 := Lib.hid he2
        rw [← ha2, ← he2]
        clear ha2 he2
        have hbc : Below w6.heap.size w6 (((w6.alloc (.cells #[.slice Ac lb capc, .int .i64 at2, .int .i64 er2] 39)).alloc (.cells #[.int .u64 (wb tn), .slice Au tl cu] 43)).alloc (.cells #[.int .u64 0, .slice none 0 0] 43)) := by go_grown
        have hBn : Blk (((w6.alloc (.cells #[.slice Ac lb capc, .int .i64 at2, .int .i64 er2] 39)).alloc (.cells #[.int .u64 (wb tn), .slice Au tl cu] 43)).alloc (.cells #[.int .u64 0, .slice none 0 0] 43)) w6.heap.size #[.slice Ac lb capc, .int .i64 at2, .int .i64 er2] 39 := ((Blk.new w6 #[.slice Ac lb capc, .int .i64 at2, .int .i64 er2] 39).alloc _).alloc _
        have hBw : Blk (((w6.alloc (.cells #[.slice Ac lb capc, .int .i64 at2, .int .i64 er2] 39)).alloc (.cells #[.int .u64 (wb tn), .slice Au tl cu] 43)).alloc (.cells #[.int .u64 0, .slice none 0 0] 43)) (w6.heap.size + 1) #[.int .u64 (wb tn), .slice Au tl cu] 43 := (Blk.new_at (w6.alloc (.cells #[.slice Ac lb capc, .int .i64 at2, .int .i64 er2] 39)) #[.int .u64 (wb tn), .slice Au tl cu] 43 (w6.heap.size + 1) (by simp)).alloc _
        have hBg : Blk (((w6.alloc (.cells #[.slice Ac lb capc, .int .i64 at2, .int .i64 er2] 39)).alloc (.cells #[.int .u64 (wb tn), .slice Au tl cu] 43)).alloc (.cells #[.int .u64 0, .slice none 0 0] 43)) (w6.heap.size + 1 + 1) #[.int .u64 0, .slice none 0 0] 43 := Blk.new_at _ #[.int .u64 0, .slice none 0 0] 43 (w6.heap.size + 1 + 1) (by simp)
        have cb0 : (((w6.alloc (.cells #[.slice Ac lb capc, .int .i64 at2, .int .i64 er2] 39)).alloc (.cells #[.int .u64 (wb tn), .slice Au tl cu] 43)).alloc (.cells #[.int .u64 0, .slice none 0 0] 43)).cell? ⟨ga, 0, none⟩ = some (.int .i64 2) := by rw [(hBa.below hbc hlta6).cell]; rfl
        have cb1 : (((w6.alloc (.cells #[.slice Ac lb capc, .int .i64 at2, .int .i64 er2] 39)).alloc (.cells #[.int .u64 (wb tn), .slice Au tl cu] 43)).alloc (.cells #[.int .u64 0, .slice none 0 0] 43)).cell? ⟨ga, 1, none⟩ = some (.int .i64 N) := by rw [(hBa.below hbc hlta6).cell]; rfl
        have hnea : ga ≠ w6.heap.size := by omega
        have hnea1 : ga ≠ w6.heap.size + 1 := by omega
        have hnea2 : ga ≠ w6.heap.size + 1 + 1 := by omega
        go_wp2_with fail
        generalize ((w6.alloc (.cells #[.slice Ac lb capc, .int .i64 at2, .int .i64 er2] 39)).alloc (.cells #[.int .u64 (wb tn), .slice Au tl cu] 43)).alloc (.cells #[.int .u64 0, .slice none 0 0] 43) = w7 at *
        replace hr1 := hr1.below hbc
        replace hr2 := hr2.below hbc
        replace hB7 := hB7.below hbc hlt76
        replace hBa := hBa.below hbc hlta6
        replace hrc := hrc.below hbc
        replace hu := hu.below hbc
        replace hb := hb.trans (hbc.mono hb.size)
        have hg16 : g1 < w6.heap.size := by omega
        have HR1o := hr1
        clear hbc ca0 ca1 cb0 cb1 hnea hnea1 hnea2
        refine (u64_any g1 A1 cap1 b at_ err w7 hr1).mono ?_
        rintro e w8 ⟨rfl, hr1, hu8⟩
        rw [← HA2.out, ← HE2.out] at hr1
        have hnm : get64 (rdGot b at_ err 8) = tn := by rw [HTN.out, toldNum, if_pos (by omega), HN.out]
        rw [hnm]
        clear hnm
        have HTE : Hid (tb = []) := by rw [HTB.out]; unfold toldBytes; rw [if_pos (by omega)]; rfl
        have hgb : Arg w8 (.slice none 0 0) tb := by rw [HTE.out]; exact Arg.nil _
        have hs8 := hu8.size
        have hl7 := hBg.lt
        have hr1o := HR1o
        replace hr2 := hr2.updR hr1o (by omega) hu8
        replace hrc := hrc.updR hr1o hu8
        replace hu := hu.updR hr1o hu8
        replace hBn := hBn.upd hu8 (by omega)
        replace hBw := hBw.upd hu8 (by omega)
        replace hBg := hBg.upd hu8 (by omega)
        replace hB7 := hB7.upd hu8 (by omega)
        replace hb := Upd.below hb hu8 hg1' hb.size
        clear hu8 hr1o HR1o
        have cg0 : w8.cell? ⟨(w6.heap.size + 1 + 1), 0, none⟩ = some (.int .u64 0) := by rw [hBg.cell]; rfl
        have fg0 := hBg.frozen 0
        go_wp2_with fail
        clear cg0 fg0
        have hU9 : Upd (w6.heap.size + 1 + 1) w8 (w8.setCell ⟨(w6.heap.size + 1 + 1), 0, none⟩ (.int .u64 (wb tn))) := (Upd.refl _ _).setCell _ _
        have hbg9 : Blk (w8.setCell ⟨(w6.heap.size + 1 + 1), 0, none⟩ (.int .u64 (wb tn))) (w6.heap.size + 1 + 1) #[.int .u64 (wb tn), .slice none 0 0] 43 := hBg.set 0 _
        generalize w8.setCell ⟨(w6.heap.size + 1 + 1), 0, none⟩ (.int .u64 (wb tn)) = w9 at *
        have hs9 := hU9.size
        replace hr1 : Rdr w9 g1 A1 cap1 b at2 er2 := ⟨hr1.blk.upd hU9 (by omega), hr1.rd.updT hBg (fun y h => by cases h) hU9, hr1.far, hr1.hcap, hr1.hle, hr1.hlen⟩
        replace hr2 : Rdr w9 g2 A2 cap2 b 0 0 := ⟨hr2.blk.upd hU9 (by omega), hr2.rd.updT hBg (fun y h => by cases h) hU9, hr2.far, hr2.hcap, hr2.hle, hr2.hlen⟩
        replace hrc := hrc.updT hBg (fun y h => by cases h) hU9
        obtain ⟨Aw, cw, hue, huc, hur⟩ := hu
        replace hur := hur.updT hBg (fun y h => by cases h) hU9
        obtain ⟨Ab, cb, hbe, hbc', hbr⟩ := hgb
        replace hbr := hbr.updT hBg (fun y h => by cases h) hU9
        have hu : Arg w9 (.slice Au tl cu) tb := ⟨Aw, cw, hue, huc, hur⟩
        have hgb : Arg w9 (.slice none 0 0) tb := ⟨Ab, cb, hbe, hbc', hbr⟩
        replace hBn := hBn.upd hU9 (by omega)
        replace hBw := hBw.upd hU9 (by omega)
        replace hB7 := hB7.upd hU9 (by omega)
        replace hb := Upd.below hb hU9 (by omega) hb.size
        clear hU9 hBg hue huc hur hbe hbc' hbr
        have cg0 : w9.cell? ⟨(w6.heap.size + 1 + 1), 0, none⟩ = some (.int .u64 (wb tn)) := by rw [hbg9.cell]; rfl
        have cg1 : w9.cell? ⟨(w6.heap.size + 1 + 1), 1, none⟩ = some (.slice none 0 0) := by rw [hbg9.cell]; rfl
        have cw0 : w9.cell? ⟨(w6.heap.size + 1), 0, none⟩ = some (.int .u64 (wb tn)) := by rw [hBw.cell]; rfl
        have cw1 : w9.cell? ⟨(w6.heap.size + 1), 1, none⟩ = some (.slice Au tl cu) := by rw [hBw.cell]; rfl
        have cn0 : w9.cell? ⟨w6.heap.size, 0, none⟩ = some (.slice Ac lb capc) := by rw [hBn.cell]; rfl
        have cn1 : w9.cell? ⟨w6.heap.size, 1, none⟩ = some (.int .i64 at2) := by rw [hBn.cell]; rfl
        have cn2 : w9.cell? ⟨w6.heap.size, 2, none⟩ = some (.int .i64 er2) := by rw [hBn.cell]; rfl
        have htl : Hid (tb.length ≤ 140737488355328) := by
          have := hr1.hlen
          rw [HTB.out]
          unfold toldBytes
          show _ ≤ _
          split
          · simp
          · split
            · rw [keyOf_length]; omega
            · exact Nat.le_trans (rdGot_length _ _ _ _) this
        have hat2 : (at2 : Int) ≤ (lb : Int) := by have := hr1.hle; rw [← HLB.out] at this; omega
        have sw : IntKind.i64.wrap ((lb : Int) - (at2 : Int)) = (lb : Int) - (at2 : Int) := IntWalk.i64_in _ (by omega)
        refine mix_start (fun w' => Below w9.heap.size w9 w') [0, 1, 2, 3, 4, 5, 6, 7, 8, 9, 10, 11, 12, 13, 14, 16, 17, 18, 19, 20, 15, 21, 22, 23, 24, 26, 27, 25, 28, 29] [10, 15, 25] [1, 3, 7, 9, 19, 27] [] (by kernel_rfl) (by kernel_rfl) (fun d _ _ _ _ h => by cases d <;> exact h) (Below.refl _ _).drew ?_
        repeat (refine mix_pure rfl rfl (fun K hK => ?_); go_simp; refine hK _ ?_; clear hK K)
        refine mix_read (.int .u64 (wb tn)) rfl rfl rfl rfl (fun w' hS => ?_) ?_
        · have hc' := below_cell hS cg0
          go_simp
        repeat (refine mix_pure rfl rfl (fun K hK => ?_); go_simp; refine hK _ ?_; clear hK K)
        refine mix_read (.int .u64 (wb tn)) rfl rfl rfl rfl (fun w' hS => ?_) ?_
        · have hc' := below_cell hS cw0
          go_simp
        repeat (refine mix_pure rfl rfl (fun K hK => ?_); go_simp; refine hK _ ?_; clear hK K)
        refine mix_read (.slice none 0 0) rfl rfl rfl rfl (fun w' hS => ?_) ?_
        · have hc' := below_cell hS cg1
          go_simp
        repeat (refine mix_pure rfl rfl (fun K hK => ?_); go_simp; refine hK _ ?_; clear hK K)
        refine mix_read (.slice Au tl cu) rfl rfl rfl rfl (fun w' hS => ?_) ?_
        · have hc' := below_cell hS cw1
          go_simp
        refine mix_eff rfl rfl (fun K hK => ?_)
        go_simp
        refine (same_v (hgb.below (Below.refl _ _).drew) (hu.below (Below.refl _ _).drew) htl.out).mono ?_
        rintro e w10 ⟨rfl, hb10⟩
        rw [beq_self_eq_true]
        have hb910 : Below w9.heap.size w9 w10 := (Below.refl _ _).drew.trans hb10
        refine hK _ _ (fun _ h => hb910) ?_
        clear hK K hb10 hgb hu
        repeat (refine mix_pure rfl rfl (fun K hK => ?_); go_simp; refine hK _ ?_; clear hK K)
        refine mix_read (.int .i64 at2) rfl rfl rfl rfl (fun w' hS => ?_) ?_
        · have hc' := below_cell hS cn1
          go_simp
        repeat (refine mix_pure rfl rfl (fun K hK => ?_); go_simp; refine hK _ ?_; clear hK K)
        refine mix_eff rfl rfl (fun K hK => ?_)
        go_simp
        refine (left_any g1 A1 cap1 b at2 er2 w10 (hr1.below hb910)).mono ?_
        rintro e w11 ⟨rfl, n11, rfl⟩
        rw [← HLB.out]
        refine hK _ _ (fun _ h => below_drewN hb910 n11) ?_
        clear hK K
        repeat (refine mix_pure rfl rfl (fun K hK => ?_); go_simp; refine hK _ ?_; clear hK K)
        refine mix_read (.int .i64 er2) rfl rfl rfl rfl (fun w' hS => ?_) ?_
        · have hc' := below_cell hS cn2
          go_simp
        refine mix_eff rfl rfl (fun K hK => ?_)
        go_simp
        refine (err_any g1 A1 cap1 b at2 er2 _ (hr1.below (below_drewN hb910 n11))).mono ?_
        rintro e w12 ⟨rfl, rfl⟩
        refine hK _ _ (fun _ h => h) ?_
        clear hK K
        repeat (refine mix_pure rfl rfl (fun K hK => ?_); go_simp; refine hK _ ?_; clear hK K)
        refine mix_nil ?_
        replace hb910 := below_drewN hb910 n11
        replace hr1 := hr1.below hb910
        replace hr2 := hr2.below hb910
        replace hrc := hrc.below hb910
        replace hBn := hBn.below hb910 hBn.lt
        replace hB7 := hB7.below hb910 hB7.lt
        replace hb := hb.trans (hb910.mono hb.size)
        clear cg0 cg1 cw0 cw1 cn0 cn1 cn2 hBw hbg9 hb910 sw
        generalize w10.drewN n11 = w11 at *
        have cn0 : w11.cell? ⟨w6.heap.size, 0, none⟩ = some (.slice Ac lb capc) := by rw [hBn.cell]; rfl
        have cn1 : w11.cell? ⟨w6.heap.size, 1, none⟩ = some (.int .i64 at2) := by rw [hBn.cell]; rfl
        have cn2 : w11.cell? ⟨w6.heap.size, 2, none⟩ = some (.int .i64 er2) := by rw [hBn.cell]; rfl
        have c70 : w11.cell? ⟨g7, 0, none⟩ = some (.slice Ac lb capc) := by rw [hB7.cell]; rfl
        have c71 : w11.cell? ⟨g7, 1, none⟩ = some (.int .i64 at_) := by rw [hB7.cell]; rfl
        have c72 : w11.cell? ⟨g7, 2, none⟩ = some (.int .i64 err) := by rw [hB7.cell]; rfl
        have f70 := hB7.frozen 0
        have f71 := hB7.frozen 1
        have f72 := hB7.frozen 2
        go_wp2_with fail
        have hU12 : Upd g7 w11 (((w11.setCell ⟨g7, 0, none⟩ (.slice Ac lb capc)).setCell ⟨g7, 1, none⟩ (.int .i64 at2)).setCell ⟨g7, 2, none⟩ (.int .i64 er2)) := (((Upd.refl _ _).setCell _ _).setCell _ _).setCell _ _
        have hB72 : Blk (((w11.setCell ⟨g7, 0, none⟩ (.slice Ac lb capc)).setCell ⟨g7, 1, none⟩ (.int .i64 at2)).setCell ⟨g7, 2, none⟩ (.int .i64 er2)) g7 #[.slice Ac lb capc, .int .i64 at2, .int .i64 er2] 39 := ((hB7.set 0 _).set 1 _).set 2 _
        have hbb := Upd.below hb hU12 hgw hb.size
        have hr12 : Rdr (((w11.setCell ⟨g7, 0, none⟩ (.slice Ac lb capc)).setCell ⟨g7, 1, none⟩ (.int .i64 at2)).setCell ⟨g7, 2, none⟩ (.int .i64 er2)) g1 A1 cap1 b at2 er2 := ⟨hr1.blk.upd hU12 (by omega), hr1.rd.updS hB7 hU12, hr1.far, hr1.hcap, hr1.hle, hr1.hlen⟩
        have hr22 : Rdr (((w11.setCell ⟨g7, 0, none⟩ (.slice Ac lb capc)).setCell ⟨g7, 1, none⟩ (.int .i64 at2)).setCell ⟨g7, 2, none⟩ (.int .i64 er2)) g2 A2 cap2 b 0 0 := ⟨hr2.blk.upd hU12 (by omega), hr2.rd.updS hB7 hU12, hr2.far, hr2.hcap, hr2.hle, hr2.hlen⟩
        have hrc2 := hrc.updS hB7 hU12
        clear c70 c71 c72 f70 f71 f72
        clear hr1 hr2 hB7 hrc hb hU12 cn0 cn1 cn2
        go_roundw
        case rel =>
          first | exact ⟨k + 1, by omega, by go_num, at2, er2, hr12, hr22, hB72, hrc2, hbb⟩ | ((repeat apply Exists.intro); exact ⟨⟨k + 1, by omega, by go_num, at2, er2, hr12, hr22, hB72, hrc2, hbb⟩, rfl⟩)
        case measure => simp [intOf]; omega
      · have HN : Hid (nOf 3 N = N) := by simp [nOf, Hid]
        obtain ⟨tn, htn⟩ : ∃ tn, tn = toldNum b at_ err 3 N := ⟨_, rfl⟩
        obtain ⟨tb, htb⟩ : ∃ tb, tb = toldBytes b at_ err 3 N := ⟨_, rfl⟩
        have HTN := Lib.hid htn
        have HTB := Lib.hid htb
        rw [HN.out, ← htn]
        rw [← htb] at hu
        obtain ⟨Au, cu, rfl, huc, hur⟩ := hu
        obtain ⟨tl, htl0⟩ : ∃ tl, tl = tb.length := ⟨_, rfl⟩
        rw [← htl0]
        have hu : Arg w6 (.slice Au tl cu) tb := ⟨Au, cu, by rw [htl0], huc, hur⟩
        clear htn htb hq0 hq5 huc hur htl0
        obtain ⟨at2, ha2⟩ : ∃ x, x = rdAt b.length at_ err N := ⟨_, rfl⟩
        obtain ⟨er2, he2⟩ : ∃ x, x = rdErr b.length at_ err N := ⟨_, rfl⟩
        have HA2 := Lib.hid ha2
        have HE2 := Lib.hid he2
        rw [← ha2, ← he2]
        clear ha2 he2
        have hbc : Below w6.heap.size w6 (((w6.alloc (.cells #[.slice Ac lb capc, .int .i64 at2, .int .i64 er2] 39)).alloc (.cells #[.int .u64 (wb tn), .slice Au tl cu] 43)).alloc (.cells #[.int .u64 0, .slice none 0 0] 43)) := by go_grown
        have hBn : Blk (((w6.alloc (.cells #[.slice Ac lb capc, .int .i64 at2, .int .i64 er2] 39)).alloc (.cells #[.int .u64 (wb tn), .slice Au tl cu] 43)).alloc (.cells #[.int .u64 0, .slice none 0 0] 43)) w6.heap.size #[.slice Ac lb capc, .int .i64 at2, .int .i64 er2] 39 := ((Blk.new w6 #[.slice Ac lb capc, .int .i64 at2, .int .i64 er2] 39).alloc _).alloc _
        have hBw : Blk (((w6.alloc (.cells #[.slice Ac lb capc, .int .i64 at2, .int .i64 er2] 39)).alloc (.cells #[.int .u64 (wb tn), .slice Au tl cu] 43)).alloc (.cells #[.int .u64 0, .slice none 0 0] 43)) (w6.heap.size + 1) #[.int .u64 (wb tn), .slice Au tl cu] 43 := (Blk.new_at (w6.alloc (.cells #[.slice Ac lb capc, .int .i64 at2, .int .i64 er2] 39)) #[.int .u64 (wb tn), .slice Au tl cu] 43 (w6.heap.size + 1) (by simp)).alloc _
        have hBg : Blk (((w6.alloc (.cells #[.slice Ac lb capc, .int .i64 at2, .int .i64 er2] 39)).alloc (.cells #[.int .u64 (wb tn), .slice Au tl cu] 43)).alloc (.cells #[.int .u64 0, .slice none 0 0] 43)) (w6.heap.size + 1 + 1) #[.int .u64 0, .slice none 0 0] 43 := Blk.new_at _ #[.int .u64 0, .slice none 0 0] 43 (w6.heap.size + 1 + 1) (by simp)
        have cb0 : (((w6.alloc (.cells #[.slice Ac lb capc, .int .i64 at2, .int .i64 er2] 39)).alloc (.cells #[.int .u64 (wb tn), .slice Au tl cu] 43)).alloc (.cells #[.int .u64 0, .slice none 0 0] 43)).cell? ⟨ga, 0, none⟩ = some (.int .i64 3) := by rw [(hBa.below hbc hlta6).cell]; rfl
        have cb1 : (((w6.alloc (.cells #[.slice Ac lb capc, .int .i64 at2, .int .i64 er2] 39)).alloc (.cells #[.int .u64 (wb tn), .slice Au tl cu] 43)).alloc (.cells #[.int .u64 0, .slice none 0 0] 43)).cell? ⟨ga, 1, none⟩ = some (.int .i64 N) := by rw [(hBa.below hbc hlta6).cell]; rfl
        have hnea : ga ≠ w6.heap.size := by omega
        have hnea1 : ga ≠ w6.heap.size + 1 := by omega
        have hnea2 : ga ≠ w6.heap.size + 1 + 1 := by omega
        go_wp2_with fail
        generalize ((w6.alloc (.cells #[.slice Ac lb capc, .int .i64 at2, .int .i64 er2] 39)).alloc (.cells #[.int .u64 (wb tn), .slice Au tl cu] 43)).alloc (.cells #[.int .u64 0, .slice none 0 0] 43) = w7 at *
        replace hr1 := hr1.below hbc
        replace hr2 := hr2.below hbc
        replace hB7 := hB7.below hbc hlt76
        replace hBa := hBa.below hbc hlta6
        replace hrc := hrc.below hbc
        replace hu := hu.below hbc
        replace hb := hb.trans (hbc.mono hb.size)
        have hg16 : g1 < w6.heap.size := by omega
        have HR1o := hr1
        clear hbc ca0 ca1 cb0 cb1 hnea hnea1 hnea2
        refine (raw_any g1 A1 cap1 b at_ err N w7 hr1).mono ?_
        rintro e w8 ⟨vv, rfl, hown, hr1, hu8⟩
        rw [← HA2.out, ← HE2.out] at hr1
        have HTE : Hid (tb = rdGot b at_ err N) := by rw [HTB.out]; unfold toldBytes; rw [if_neg (by omega), if_neg (by omega)]; rfl
        have hgb : Arg w8 vv tb := by rw [HTE.out]; exact OwnB.arg hown
        obtain ⟨Av, cv, rfl, hvc, hvr⟩ := hgb
        obtain ⟨vl, hvl⟩ : ∃ vl, vl = tb.length := ⟨_, rfl⟩
        rw [← hvl]
        have hgb : Arg w8 (.slice Av vl cv) tb := ⟨Av, cv, by rw [hvl], hvc, hvr⟩
        clear hvl hvc hvr
        have HTZ : Hid (tn = 0) := by rw [HTN.out]; unfold toldNum; rw [if_neg (by omega)]; rfl
        clear hown
        have hs8 := hu8.size
        have hl7 := hBg.lt
        have hr1o := HR1o
        replace hr2 := hr2.updR hr1o (by omega) hu8
        replace hrc := hrc.updR hr1o hu8
        replace hu := hu.updR hr1o hu8
        replace hBn := hBn.upd hu8 (by omega)
        replace hBw := hBw.upd hu8 (by omega)
        replace hBg := hBg.upd hu8 (by omega)
        replace hB7 := hB7.upd hu8 (by omega)
        replace hb := Upd.below hb hu8 hg1' hb.size
        clear hu8 hr1o HR1o
        have cg0 : w8.cell? ⟨(w6.heap.size + 1 + 1), 1, none⟩ = some (.slice none 0 0) := by rw [hBg.cell]; rfl
        have fg0 := hBg.frozen 1
        go_wp2_with fail
        clear cg0 fg0
        have hU9 : Upd (w6.heap.size + 1 + 1) w8 (w8.setCell ⟨(w6.heap.size + 1 + 1), 1, none⟩ (.slice Av vl cv)) := (Upd.refl _ _).setCell _ _
        have hbg9 : Blk (w8.setCell ⟨(w6.heap.size + 1 + 1), 1, none⟩ (.slice Av vl cv)) (w6.heap.size + 1 + 1) #[.int .u64 (wb tn), .slice Av vl cv] 43 := by rw [HTZ.out]; exact hBg.set 1 _
        generalize w8.setCell ⟨(w6.heap.size + 1 + 1), 1, none⟩ (.slice Av vl cv) = w9 at *
        have hs9 := hU9.size
        replace hr1 : Rdr w9 g1 A1 cap1 b at2 er2 := ⟨hr1.blk.upd hU9 (by omega), hr1.rd.updT hBg (fun y h => by cases h) hU9, hr1.far, hr1.hcap, hr1.hle, hr1.hlen⟩
        replace hr2 : Rdr w9 g2 A2 cap2 b 0 0 := ⟨hr2.blk.upd hU9 (by omega), hr2.rd.updT hBg (fun y h => by cases h) hU9, hr2.far, hr2.hcap, hr2.hle, hr2.hlen⟩
        replace hrc := hrc.updT hBg (fun y h => by cases h) hU9
        obtain ⟨Aw, cw, hue, huc, hur⟩ := hu
        replace hur := hur.updT hBg (fun y h => by cases h) hU9
        obtain ⟨Ab, cb, hbe, hbc', hbr⟩ := hgb
        replace hbr := hbr.updT hBg (fun y h => by cases h) hU9
        have hu : Arg w9 (.slice Au tl cu) tb := ⟨Aw, cw, hue, huc, hur⟩
        have hgb : Arg w9 (.slice Av vl cv) tb := ⟨Ab, cb, hbe, hbc', hbr⟩
        replace hBn := hBn.upd hU9 (by omega)
        replace hBw := hBw.upd hU9 (by omega)
        replace hB7 := hB7.upd hU9 (by omega)
        replace hb := Upd.below hb hU9 (by omega) hb.size
        clear hU9 hBg hue huc hur hbe hbc' hbr
        have cg0 : w9.cell? ⟨(w6.heap.size + 1 + 1), 0, none⟩ = some (.int .u64 (wb tn)) := by rw [hbg9.cell]; rfl
        have cg1 : w9.cell? ⟨(w6.heap.size + 1 + 1), 1, none⟩ = some (.slice Av vl cv) := by rw [hbg9.cell]; rfl
        have cw0 : w9.cell? ⟨(w6.heap.size + 1), 0, none⟩ = some (.int .u64 (wb tn)) := by rw [hBw.cell]; rfl
        have cw1 : w9.cell? ⟨(w6.heap.size + 1), 1, none⟩ = some (.slice Au tl cu) := by rw [hBw.cell]; rfl
        have cn0 : w9.cell? ⟨w6.heap.size, 0, none⟩ = some (.slice Ac lb capc) := by rw [hBn.cell]; rfl
        have cn1 : w9.cell? ⟨w6.heap.size, 1, none⟩ = some (.int .i64 at2) := by rw [hBn.cell]; rfl
        have cn2 : w9.cell? ⟨w6.heap.size, 2, none⟩ = some (.int .i64 er2) := by rw [hBn.cell]; rfl
        have htl : Hid (tb.length ≤ 140737488355328) := by
          have := hr1.hlen
          rw [HTB.out]
          unfold toldBytes
          show _ ≤ _
          split
          · simp
          · split
            · rw [keyOf_length]; omega
            · exact Nat.le_trans (rdGot_length _ _ _ _) this
        have hat2 : (at2 : Int) ≤ (lb : Int) := by have := hr1.hle; rw [← HLB.out] at this; omega
        have sw : IntKind.i64.wrap ((lb : Int) - (at2 : Int)) = (lb : Int) - (at2 : Int) := IntWalk.i64_in _ (by omega)
        refine mix_start (fun w' => Below w9.heap.size w9 w') [0, 1, 2, 3, 4, 5, 6, 7, 8, 9, 10, 11, 12, 13, 14, 16, 17, 18, 19, 20, 15, 21, 22, 23, 24, 26, 27, 25, 28, 29] [10, 15, 25] [1, 3, 7, 9, 19, 27] [] (by kernel_rfl) (by kernel_rfl) (fun d _ _ _ _ h => by cases d <;> exact h) (Below.refl _ _).drew ?_
        repeat (refine mix_pure rfl rfl (fun K hK => ?_); go_simp; refine hK _ ?_; clear hK K)
        refine mix_read (.int .u64 (wb tn)) rfl rfl rfl rfl (fun w' hS => ?_) ?_
        · have hc' := below_cell hS cg0
          go_simp
        repeat (refine mix_pure rfl rfl (fun K hK => ?_); go_simp; refine hK _ ?_; clear hK K)
        refine mix_read (.int .u64 (wb tn)) rfl rfl rfl rfl (fun w' hS => ?_) ?_
        · have hc' := below_cell hS cw0
          go_simp
        repeat (refine mix_pure rfl rfl (fun K hK => ?_); go_simp; refine hK _ ?_; clear hK K)
        refine mix_read (.slice Av vl cv) rfl rfl rfl rfl (fun w' hS => ?_) ?_
        · have hc' := below_cell hS cg1
          go_simp
        repeat (refine mix_pure rfl rfl (fun K hK => ?_); go_simp; refine hK _ ?_; clear hK K)
        refine mix_read (.slice Au tl cu) rfl rfl rfl rfl (fun w' hS => ?_) ?_
        · have hc' := below_cell hS cw1
          go_simp
        refine mix_eff rfl rfl (fun K hK => ?_)
        go_simp
        refine (same_v (hgb.below (Below.refl _ _).drew) (hu.below (Below.refl _ _).drew) htl.out).mono ?_
        rintro e w10 ⟨rfl, hb10⟩
        rw [beq_self_eq_true]
        have hb910 : Below w9.heap.size w9 w10 := (Below.refl _ _).drew.trans hb10
        refine hK _ _ (fun _ h => hb910) ?_
        clear hK K hb10 hgb hu
        repeat (refine mix_pure rfl rfl (fun K hK => ?_); go_simp; refine hK _ ?_; clear hK K)
        refine mix_read (.int .i64 at2) rfl rfl rfl rfl (fun w' hS => ?_) ?_
        · have hc' := below_cell hS cn1
          go_simp
        repeat (refine mix_pure rfl rfl (fun K hK => ?_); go_simp; refine hK _ ?_; clear hK K)
        refine mix_eff rfl rfl (fun K hK => ?_)
        go_simp
        refine (left_any g1 A1 cap1 b at2 er2 w10 (hr1.below hb910)).mono ?_
        rintro e w11 ⟨rfl, n11, rfl⟩
        rw [← HLB.out]
        refine hK _ _ (fun _ h => below_drewN hb910 n11) ?_
        clear hK K
        repeat (refine mix_pure rfl rfl (fun K hK => ?_); go_simp; refine hK _ ?_; clear hK K)
        refine mix_read (.int .i64 er2) rfl rfl rfl rfl (fun w' hS => ?_) ?_
        · have hc' := below_cell hS cn2
          go_simp
        refine mix_eff rfl rfl (fun K hK => ?_)
        go_simp
        refine (err_any g1 A1 cap1 b at2 er2 _ (hr1.below (below_drewN hb910 n11))).mono ?_
        rintro e w12 ⟨rfl, rfl⟩
        refine hK _ _ (fun _ h => h) ?_
        clear hK K
        repeat (refine mix_pure rfl rfl (fun K hK => ?_); go_simp; refine hK _ ?_; clear hK K)
        refine mix_nil ?_
        replace hb910 := below_drewN hb910 n11
        replace hr1 := hr1.below hb910
        replace hr2 := hr2.below hb910
        replace hrc := hrc.below hb910
        replace hBn := hBn.below hb910 hBn.lt
        replace hB7 := hB7.below hb910 hB7.lt
        replace hb := hb.trans (hb910.mono hb.size)
        clear cg0 cg1 cw0 cw1 cn0 cn1 cn2 hBw hbg9 hb910 sw
        generalize w10.drewN n11 = w11 at *
        have cn0 : w11.cell? ⟨w6.heap.size, 0, none⟩ = some (.slice Ac lb capc) := by rw [hBn.cell]; rfl
        have cn1 : w11.cell? ⟨w6.heap.size, 1, none⟩ = some (.int .i64 at2) := by rw [hBn.cell]; rfl
        have cn2 : w11.cell? ⟨w6.heap.size, 2, none⟩ = some (.int .i64 er2) := by rw [hBn.cell]; rfl
        have c70 : w11.cell? ⟨g7, 0, none⟩ = some (.slice Ac lb capc) := by rw [hB7.cell]; rfl
        have c71 : w11.cell? ⟨g7, 1, none⟩ = some (.int .i64 at_) := by rw [hB7.cell]; rfl
        have c72 : w11.cell? ⟨g7, 2, none⟩ = some (.int .i64 err) := by rw [hB7.cell]; rfl
        have f70 := hB7.frozen 0
        have f71 := hB7.frozen 1
        have f72 := hB7.frozen 2
        go_wp2_with fail
        have hU12 : Upd g7 w11 (((w11.setCell ⟨g7, 0, none⟩ (.slice Ac lb capc)).setCell ⟨g7, 1, none⟩ (.int .i64 at2)).setCell ⟨g7, 2, none⟩ (.int .i64 er2)) := (((Upd.refl _ _).setCell _ _).setCell _ _).setCell _ _
        have hB72 : Blk (((w11.setCell ⟨g7, 0, none⟩ (.slice Ac lb capc)).setCell ⟨g7, 1, none⟩ (.int .i64 at2)).setCell ⟨g7, 2, none⟩ (.int .i64 er2)) g7 #[.slice Ac lb capc, .int .i64 at2, .int .i64 er2] 39 := ((hB7.set 0 _).set 1 _).set 2 _
        have hbb := Upd.below hb hU12 hgw hb.size
        have hr12 : Rdr (((w11.setCell ⟨g7, 0, none⟩ (.slice Ac lb capc)).setCell ⟨g7, 1, none⟩ (.int .i64 at2)).setCell ⟨g7, 2, none⟩ (.int .i64 er2)) g1 A1 cap1 b at2 er2 := ⟨hr1.blk.upd hU12 (by omega), hr1.rd.updS hB7 hU12, hr1.far, hr1.hcap, hr1.hle, hr1.hlen⟩
        have hr22 : Rdr (((w11.setCell ⟨g7, 0, none⟩ (.slice Ac lb capc)).setCell ⟨g7, 1, none⟩ (.int .i64 at2)).setCell ⟨g7, 2, none⟩ (.int .i64 er2)) g2 A2 cap2 b 0 0 := ⟨hr2.blk.upd hU12 (by omega), hr2.rd.updS hB7 hU12, hr2.far, hr2.hcap, hr2.hle, hr2.hlen⟩
        have hrc2 := hrc.updS hB7 hU12
        clear c70 c71 c72 f70 f71 f72
        clear hr1 hr2 hB7 hrc hb hU12 cn0 cn1 cn2
        go_roundw
        case rel =>
          first | exact ⟨k + 1, by omega, by go_num, at2, er2, hr12, hr22, hB72, hrc2, hbb⟩ | ((repeat apply Exists.intro); exact ⟨⟨k + 1, by omega, by go_num, at2, er2, hr12, hr22, hB72, hrc2, hbb⟩, rfl⟩)
        case measure => simp [intOf]; omega
      · have HN : Hid (nOf 4 N = 32) := by simp [nOf, Hid]
        obtain ⟨tn, htn⟩ : ∃ tn, tn = toldNum b at_ err 4 N := ⟨_, rfl⟩
        obtain ⟨tb, htb⟩ : ∃ tb, tb = toldBytes b at_ err 4 N := ⟨_, rfl⟩
        have HTN := Lib.hid htn
        have HTB := Lib.hid htb
        rw [HN.out, ← htn]
        rw [← htb] at hu
        obtain ⟨Au, cu, rfl, huc, hur⟩ := hu
        obtain ⟨tl, htl0⟩ : ∃ tl, tl = tb.length := ⟨_, rfl⟩
        rw [← htl0]
        have hu : Arg w6 (.slice Au tl cu) tb := ⟨Au, cu, by rw [htl0], huc, hur⟩
        clear htn htb hq0 hq5 huc hur htl0
        obtain ⟨at2, ha2⟩ : ∃ x, x = rdAt b.length at_ err 32 := ⟨_, rfl⟩
        obtain ⟨er2, he2⟩ : ∃ x, x = rdErr b.length at_ err 32 := ⟨_, rfl⟩
        have HA2 := Lib.hid ha2
        have HE2 := Lib.hid he2
        rw [← ha2, ← he2]
        clear ha2 he2
        have hbc : Below w6.heap.size w6 (((w6.alloc (.cells #[.slice Ac lb capc, .int .i64 at2, .int .i64 er2] 39)).alloc (.cells #[.int .u64 (wb tn), .slice Au tl cu] 43)).alloc (.cells #[.int .u64 0, .slice none 0 0] 43)) := by go_grown
        have hBn : Blk (((w6.alloc (.cells #[.slice Ac lb capc, .int .i64 at2, .int .i64 er2] 39)).alloc (.cells #[.int .u64 (wb tn), .slice Au tl cu] 43)).alloc (.cells #[.int .u64 0, .slice none 0 0] 43)) w6.heap.size #[.slice Ac lb capc, .int .i64 at2, .int .i64 er2] 39 := ((Blk.new w6 #[.slice Ac lb capc, .int .i64 at2, .int .i64 er2] 39).alloc _).alloc _
        have hBw : Blk (((w6.alloc (.cells #[.slice Ac lb capc, .int .i64 at2, .int .i64 er2] 39)).alloc (.cells #[.int .u64 (wb tn), .slice Au tl cu] 43)).alloc (.cells #[.int .u64 0, .slice none 0 0] 43)) (w6.heap.size + 1) #[.int .u64 (wb tn), .slice Au tl cu] 43 := (Blk.new_at (w6.alloc (.cells #[.slice Ac lb capc, .int .i64 at2, .int .i64 er2] 39)) #[.int .u64 (wb tn), .slice Au tl cu] 43 (w6.heap.size + 1) (by simp)).alloc _
        have hBg : Blk (((w6.alloc (.cells #[.slice Ac lb capc, .int .i64 at2, .int .i64 er2] 39)).alloc (.cells #[.int .u64 (wb tn), .slice Au tl cu] 43)).alloc (.cells #[.int .u64 0, .slice none 0 0] 43)) (w6.heap.size + 1 + 1) #[.int .u64 0, .slice none 0 0] 43 := Blk.new_at _ #[.int .u64 0, .slice none 0 0] 43 (w6.heap.size + 1 + 1) (by simp)
        have cb0 : (((w6.alloc (.cells #[.slice Ac lb capc, .int .i64 at2, .int .i64 er2] 39)).alloc (.cells #[.int .u64 (wb tn), .slice Au tl cu] 43)).alloc (.cells #[.int .u64 0, .slice none 0 0] 43)).cell? ⟨ga, 0, none⟩ = some (.int .i64 4) := by rw [(hBa.below hbc hlta6).cell]; rfl
        have cb1 : (((w6.alloc (.cells #[.slice Ac lb capc, .int .i64 at2, .int .i64 er2] 39)).alloc (.cells #[.int .u64 (wb tn), .slice Au tl cu] 43)).alloc (.cells #[.int .u64 0, .slice none 0 0] 43)).cell? ⟨ga, 1, none⟩ = some (.int .i64 N) := by rw [(hBa.below hbc hlta6).cell]; rfl
        have hnea : ga ≠ w6.heap.size := by omega
        have hnea1 : ga ≠ w6.heap.size + 1 := by omega
        have hnea2 : ga ≠ w6.heap.size + 1 + 1 := by omega
        go_wp2_with fail
        generalize ((w6.alloc (.cells #[.slice Ac lb capc, .int .i64 at2, .int .i64 er2] 39)).alloc (.cells #[.int .u64 (wb tn), .slice Au tl cu] 43)).alloc (.cells #[.int .u64 0, .slice none 0 0] 43) = w7 at *
        replace hr1 := hr1.below hbc
        replace hr2 := hr2.below hbc
        replace hB7 := hB7.below hbc hlt76
        replace hBa := hBa.below hbc hlta6
        replace hrc := hrc.below hbc
        replace hu := hu.below hbc
        replace hb := hb.trans (hbc.mono hb.size)
        have hg16 : g1 < w6.heap.size := by omega
        have HR1o := hr1
        clear hbc ca0 ca1 cb0 cb1 hnea hnea1 hnea2
        refine (key_any g1 A1 cap1 b at_ err w7 hr1).mono ?_
        rintro e w8 ⟨rfl, hr1, hu8⟩
        rw [← HA2.out, ← HE2.out] at hr1
        have HTE : Hid (keyOf (rdGot b at_ err 32) = tb) := by rw [HTB.out]; unfold toldBytes; rw [if_neg (by omega), if_pos rfl]; rfl
        have HTL : Hid (tb.length = 32) := by rw [← HTE.out]; exact keyOf_length _
        rw [HTE.out]
        have HTZ : Hid (tn = 0) := by rw [HTN.out]; unfold toldNum; rw [if_neg (by omega)]; rfl
        have hs8 := hu8.size
        have hl7 := hBg.lt
        have hr1o := HR1o
        replace hr2 := hr2.updR hr1o (by omega) hu8
        replace hrc := hrc.updR hr1o hu8
        replace hu := hu.updR hr1o hu8
        replace hBn := hBn.upd hu8 (by omega)
        replace hBw := hBw.upd hu8 (by omega)
        replace hBg := hBg.upd hu8 (by omega)
        replace hB7 := hB7.upd hu8 (by omega)
        replace hb := Upd.below hb hu8 hg1' hb.size
        clear hu8 hr1o HR1o
        have hK := Blk.new w8 (encs .u8 tb) 51
        have hbk : Below w8.heap.size w8 (w8.alloc (.cells (encs .u8 tb) 51)) := (Below.refl _ _).alloc (Nat.le_refl _) _
        have hgb : Arg (w8.alloc (.cells (encs .u8 tb) 51)) (.slice (some ⟨w8.heap.size, 0, none⟩) 32 32) tb := arg_of hK.rd HTL.out (Nat.le_refl _)
        obtain ⟨gk, hgk⟩ : ∃ gk, gk = w8.heap.size := ⟨_, rfl⟩
        have cg0 : (w8.alloc (.cells (encs .u8 tb) 51)).cell? ⟨(w6.heap.size + 1 + 1), 1, none⟩ = some (.slice none 0 0) := by rw [(hBg.alloc _).cell]; rfl
        have fg0 := (hBg.alloc (.cells (encs .u8 tb) 51)).frozen 1
        go_wp2_with (refine wpList_store_last rfl 51 _ _ rfl _ _ _ 51 rfl rfl (by simp; done) (by rw [encs_size, HTL.out]; exact sizeKey) (by rw [encs_size, HTL.out]; rfl) (encs_one _ _) ?_)
        rw [← hgk] at hgb ⊢
        clear cg0 fg0 hK hgk
        replace hr1 := hr1.below hbk
        replace hr2 := hr2.below hbk
        replace hrc := hrc.below hbk
        replace hu := hu.below hbk
        replace hBn := hBn.below hbk hBn.lt
        replace hBw := hBw.below hbk hBw.lt
        replace hBg := hBg.below hbk hBg.lt
        replace hB7 := hB7.below hbk hB7.lt
        replace hb := hb.trans (hbk.mono hb.size)
        replace hs8 := Nat.le_trans hs8 hbk.size
        clear hbk
        generalize w8.alloc (.cells (encs .u8 tb) 51) = w8 at *
        have hU9 : Upd (w6.heap.size + 1 + 1) w8 (w8.setCell ⟨(w6.heap.size + 1 + 1), 1, none⟩ (.slice (some ⟨gk, 0, none⟩) 32 32)) := (Upd.refl _ _).setCell _ _
        have hbg9 : Blk (w8.setCell ⟨(w6.heap.size + 1 + 1), 1, none⟩ (.slice (some ⟨gk, 0, none⟩) 32 32)) (w6.heap.size + 1 + 1) #[.int .u64 (wb tn), .slice (some ⟨gk, 0, none⟩) 32 32] 43 := by rw [HTZ.out]; exact hBg.set 1 _
        generalize w8.setCell ⟨(w6.heap.size + 1 + 1), 1, none⟩ (.slice (some ⟨gk, 0, none⟩) 32 32) = w9 at *
        have hs9 := hU9.size
        replace hr1 : Rdr w9 g1 A1 cap1 b at2 er2 := ⟨hr1.blk.upd hU9 (by omega), hr1.rd.updT hBg (fun y h => by cases h) hU9, hr1.far, hr1.hcap, hr1.hle, hr1.hlen⟩
        replace hr2 : Rdr w9 g2 A2 cap2 b 0 0 := ⟨hr2.blk.upd hU9 (by omega), hr2.rd.updT hBg (fun y h => by cases h) hU9, hr2.far, hr2.hcap, hr2.hle, hr2.hlen⟩
        replace hrc := hrc.updT hBg (fun y h => by cases h) hU9
        obtain ⟨Aw, cw, hue, huc, hur⟩ := hu
        replace hur := hur.updT hBg (fun y h => by cases h) hU9
        obtain ⟨Ab, cb, hbe, hbc', hbr⟩ := hgb
        replace hbr := hbr.updT hBg (fun y h => by cases h) hU9
        have hu : Arg w9 (.slice Au tl cu) tb := ⟨Aw, cw, hue, huc, hur⟩
        have hgb : Arg w9 (.slice (some ⟨gk, 0, none⟩) 32 32) tb := ⟨Ab, cb, hbe, hbc', hbr⟩
        replace hBn := hBn.upd hU9 (by omega)
        replace hBw := hBw.upd hU9 (by omega)
        replace hB7 := hB7.upd hU9 (by omega)
        replace hb := Upd.below hb hU9 (by omega) hb.size
        clear hU9 hBg hue huc hur hbe hbc' hbr
        have cg0 : w9.cell? ⟨(w6.heap.size + 1 + 1), 0, none⟩ = some (.int .u64 (wb tn)) := by rw [hbg9.cell]; rfl
        have cg1 : w9.cell? ⟨(w6.heap.size + 1 + 1), 1, none⟩ = some (.slice (some ⟨gk, 0, none⟩) 32 32) := by rw [hbg9.cell]; rfl
        have cw0 : w9.cell? ⟨(w6.heap.size + 1), 0, none⟩ = some (.int .u64 (wb tn)) := by rw [hBw.cell]; rfl
        have cw1 : w9.cell? ⟨(w6.heap.size + 1), 1, none⟩ = some (.slice Au tl cu) := by rw [hBw.cell]; rfl
        have cn0 : w9.cell? ⟨w6.heap.size, 0, none⟩ = some (.slice Ac lb capc) := by rw [hBn.cell]; rfl
        have cn1 : w9.cell? ⟨w6.heap.size, 1, none⟩ = some (.int .i64 at2) := by rw [hBn.cell]; rfl
        have cn2 : w9.cell? ⟨w6.heap.size, 2, none⟩ = some (.int .i64 er2) := by rw [hBn.cell]; rfl
        have htl : Hid (tb.length ≤ 140737488355328) := by
          have := hr1.hlen
          rw [HTB.out]
          unfold toldBytes
          show _ ≤ _
          split
          · simp
          · split
            · rw [keyOf_length]; omega
            · exact Nat.le_trans (rdGot_length _ _ _ _) this
        have hat2 : (at2 : Int) ≤ (lb : Int) := by have := hr1.hle; rw [← HLB.out] at this; omega
        have sw : IntKind.i64.wrap ((lb : Int) - (at2 : Int)) = (lb : Int) - (at2 : Int) := IntWalk.i64_in _ (by omega)
        refine mix_start (fun w' => Below w9.heap.size w9 w') [0, 1, 2, 3, 4, 5, 6, 7, 8, 9, 10, 11, 12, 13, 14, 16, 17, 18, 19, 20, 15, 21, 22, 23, 24, 26, 27, 25, 28, 29] [10, 15, 25] [1, 3, 7, 9, 19, 27] [] (by kernel_rfl) (by kernel_rfl) (fun d _ _ _ _ h => by cases d <;> exact h) (Below.refl _ _).drew ?_
        repeat (refine mix_pure rfl rfl (fun K hK => ?_); go_simp; refine hK _ ?_; clear hK K)
        refine mix_read (.int .u64 (wb tn)) rfl rfl rfl rfl (fun w' hS => ?_) ?_
        · have hc' := below_cell hS cg0
          go_simp
        repeat (refine mix_pure rfl rfl (fun K hK => ?_); go_simp; refine hK _ ?_; clear hK K)
        refine mix_read (.int .u64 (wb tn)) rfl rfl rfl rfl (fun w' hS => ?_) ?_
        · have hc' := below_cell hS cw0
          go_simp
        repeat (refine mix_pure rfl rfl (fun K hK => ?_); go_simp; refine hK _ ?_; clear hK K)
        refine mix_read (.slice (some ⟨gk, 0, none⟩) 32 32) rfl rfl rfl rfl (fun w' hS => ?_) ?_
        · have hc' := below_cell hS cg1
          go_simp
        repeat (refine mix_pure rfl rfl (fun K hK => ?_); go_simp; refine hK _ ?_; clear hK K)
        refine mix_read (.slice Au tl cu) rfl rfl rfl rfl (fun w' hS => ?_) ?_
        · have hc' := below_cell hS cw1
          go_simp
        refine mix_eff rfl rfl (fun K hK => ?_)
        go_simp
        refine (same_v (hgb.below (Below.refl _ _).drew) (hu.below (Below.refl _ _).drew) htl.out).mono ?_
        rintro e w10 ⟨rfl, hb10⟩
        rw [beq_self_eq_true]
        have hb910 : Below w9.heap.size w9 w10 := (Below.refl _ _).drew.trans hb10
        refine hK _ _ (fun _ h => hb910) ?_
        clear hK K hb10 hgb hu
        repeat (refine mix_pure rfl rfl (fun K hK => ?_); go_simp; refine hK _ ?_; clear hK K)
        refine mix_read (.int .i64 at2) rfl rfl rfl rfl (fun w' hS => ?_) ?_
        · have hc' := below_cell hS cn1
          go_simp
        repeat (refine mix_pure rfl rfl (fun K hK => ?_); go_simp; refine hK _ ?_; clear hK K)
        refine mix_eff rfl rfl (fun K hK => ?_)
        go_simp
        refine (left_any g1 A1 cap1 b at2 er2 w10 (hr1.below hb910)).mono ?_
        rintro e w11 ⟨rfl, n11, rfl⟩
        rw [← HLB.out]
        refine hK _ _ (fun _ h => below_drewN hb910 n11) ?_
        clear hK K
        repeat (refine mix_pure rfl rfl (fun K hK => ?_); go_simp; refine hK _ ?_; clear hK K)
        refine mix_read (.int .i64 er2) rfl rfl rfl rfl (fun w' hS => ?_) ?_
        · have hc' := below_cell hS cn2
          go_simp
        refine mix_eff rfl rfl (fun K hK => ?_)
        go_simp
        refine (err_any g1 A1 cap1 b at2 er2 _ (hr1.below (below_drewN hb910 n11))).mono ?_
        rintro e w12 ⟨rfl, rfl⟩
        refine hK _ _ (fun _ h => h) ?_
        clear hK K
        repeat (refine mix_pure rfl rfl (fun K hK => ?_); go_simp; refine hK _ ?_; clear hK K)
        refine mix_nil ?_
        replace hb910 := below_drewN hb910 n11
        replace hr1 := hr1.below hb910
        replace hr2 := hr2.below hb910
        replace hrc := hrc.below hb910
        replace hBn := hBn.below hb910 hBn.lt
        replace hB7 := hB7.below hb910 hB7.lt
        replace hb := hb.trans (hb910.mono hb.size)
        clear cg0 cg1 cw0 cw1 cn0 cn1 cn2 hBw hbg9 hb910 sw
        generalize w10.drewN n11 = w11 at *
        have cn0 : w11.cell? ⟨w6.heap.size, 0, none⟩ = some (.slice Ac lb capc) := by rw [hBn.cell]; rfl
        have cn1 : w11.cell? ⟨w6.heap.size, 1, none⟩ = some (.int .i64 at2) := by rw [hBn.cell]; rfl
        have cn2 : w11.cell? ⟨w6.heap.size, 2, none⟩ = some (.int .i64 er2) := by rw [hBn.cell]; rfl
        have c70 : w11.cell? ⟨g7, 0, none⟩ = some (.slice Ac lb capc) := by rw [hB7.cell]; rfl
        have c71 : w11.cell? ⟨g7, 1, none⟩ = some (.int .i64 at_) := by rw [hB7.cell]; rfl
        have c72 : w11.cell? ⟨g7, 2, none⟩ = some (.int .i64 err) := by rw [hB7.cell]; rfl
        have f70 := hB7.frozen 0
        have f71 := hB7.frozen 1
        have f72 := hB7.frozen 2
        go_wp2_with fail
        have hU12 : Upd g7 w11 (((w11.setCell ⟨g7, 0, none⟩ (.slice Ac lb capc)).setCell ⟨g7, 1, none⟩ (.int .i64 at2)).setCell ⟨g7, 2, none⟩ (.int .i64 er2)) := (((Upd.refl _ _).setCell _ _).setCell _ _).setCell _ _
        have hB72 : Blk (((w11.setCell ⟨g7, 0, none⟩ (.slice Ac lb capc)).setCell ⟨g7, 1, none⟩ (.int .i64 at2)).setCell ⟨g7, 2, none⟩ (.int .i64 er2)) g7 #[.slice Ac lb capc, .int .i64 at2, .int .i64 er2] 39 := ((hB7.set 0 _).set 1 _).set 2 _
        have hbb := Upd.below hb hU12 hgw hb.size
        have hr12 : Rdr (((w11.setCell ⟨g7, 0, none⟩ (.slice Ac lb capc)).setCell ⟨g7, 1, none⟩ (.int .i64 at2)).setCell ⟨g7, 2, none⟩ (.int .i64 er2)) g1 A1 cap1 b at2 er2 := ⟨hr1.blk.upd hU12 (by omega), hr1.rd.updS hB7 hU12, hr1.far, hr1.hcap, hr1.hle, hr1.hlen⟩
        have hr22 : Rdr (((w11.setCell ⟨g7, 0, none⟩ (.slice Ac lb capc)).setCell ⟨g7, 1, none⟩ (.int .i64 at2)).setCell ⟨g7, 2, none⟩ (.int .i64 er2)) g2 A2 cap2 b 0 0 := ⟨hr2.blk.upd hU12 (by omega), hr2.rd.updS hB7 hU12, hr2.far, hr2.hcap, hr2.hle, hr2.hlen⟩
        have hrc2 := hrc.updS hB7 hU12
        clear c70 c71 c72 f70 f71 f72
        clear hr1 hr2 hB7 hrc hb hU12 cn0 cn1 cn2
        go_roundw
        case rel =>
          first | exact ⟨k + 1, by omega, by go_num, at2, er2, hr12, hr22, hB72, hrc2, hbb⟩ | ((repeat apply Exists.intro); exact ⟨⟨k + 1, by omega, by go_num, at2, er2, hr12, hr22, hB72, hrc2, hbb⟩, rfl⟩)
        case measure => simp [intOf]; omega
    · obtain rfl : k = la := by omega
      clear hB7 hrc hr1
      go_wp2_with fail
      refine (left_any g2 A2 cap2 b 0 0 wr hr2).mono ?_
      rintro e w6 ⟨rfl, n6, rfl⟩
      have hr22 := hr2.below (below_drewN (Below.refl _ _) n6)
      have hbb := below_drewN hb n6
      clear hr2 hb
      generalize wr.drewN n6 = w7 at *
      have e0 : ((b.length : Int) - ((0 : Nat) : Int)) = (lb : Int) := by rw [HLB.out]; simp
      rw [e0]
      clear e0
      go_wp2_with fail
      refine (err_any g2 A2 cap2 b 0 0 w7 hr22).mono ?_
      rintro e w8 ⟨rfl, rfl⟩
      go_wp2_with fail
      go_ret
      exact ⟨rfl, hbb⟩
end Go.Proofs.Ytbpfdoemkogljaa
