/- The reference's xor: bytes appended one by one to a slice of the function's own. -/
import Derived.Test.YtdpdpeifmignnaaRefBlk
import Derived.Test.YtdpdpeifmignnaaXor
import Derived.Test.YtdpdpeifmignnaaPart
import Derived.Deep.AppendLies
import Derived.Lib.SmallJoins
namespace Go.Proofs.Ytdpdpeifmignnaa
open Go.RowKit
theorem chXor_at (key nonce b : List (BitVec 8)) (ctr : BitVec 32) (j k : Nat) (hk : k < 64) (h : 64 * j + k < b.length) : (chXor key ctr nonce b).getD (64 * j + k) 0 = b.getD (64 * j + k) 0 ^^^ (chBlock key (ctr + BitVec.ofNat 32 j) nonce).getD k 0 := by
  rw [← ksb_at key ctr nonce j k hk]
  simp [chXor, xorM, List.getD, h]
theorem encL_take (k : IntKind) {n : Nat} (X : List (BitVec n)) (m : Nat) (h : m < X.length) : encL k (X.take (m + 1)) = encL k (X.take m) ++ [.int k (wb (X.getD m 0))] := by
  simp only [encL, List.take_add_one, List.map_append, List.getElem?_eq_getElem h]
  simp [List.getD, h]
theorem below_grown {B : Nat} {a w w' : World} {row : Option Nat} (h : Below B a w) (hB : B ≤ w.heap.size) (hg : w.grownBy w' row) (hr : ∀ k, row = some k → B ≤ k) : Below B a w' :=
  h.trans ⟨hg.os, hg.tape, hg.output, hg.size, fun k hk => hg.block k (by omega) (fun e => by have := hr k e.symm; omega)⟩
theorem Blk.grown {w w' : World} {g : Nat} {cs : Array Value} {ty : TypeId} {row : Option Nat} (h : Blk w g cs ty) (hg : w.grownBy w' row) (hr : row ≠ some g) : Blk w' g cs ty := (hg.block g h.lt (fun e => hr e.symm)).trans h
theorem owns_below {w w' : World} {base size n : Nat} {e : TypeId} {v : Value} {xs : List Value} (h : w.ownsRow base e size v n xs) (hb : Below w.heap.size w w') : w'.ownsRow base e size v n xs :=
  h.kept (row := none) ⟨hb.os, hb.tape, hb.output, hb.size, fun k hk _ => hb.block k hk⟩ (by by_cases h : v.ownBlock = none; exact .inl h; exact .inr h)
/-- A slice that reads as bytes is handed back. -/
def RetRd (w : World) (k : IntKind) {n : Nat} (l : List (BitVec n)) (e : Ending) (w' : World) : Prop :=
  ∃ A cap, e = .returned (.slice A l.length cap) ∧ l.length ≤ cap ∧ Rd w' k A l ∧ Below w.heap.size w w'
theorem ownsRow_rd {w : World} {base : Nat} {ty : TypeId} {v : Value} {k : IntKind} {n : Nat} {l : List (BitVec n)} (h : w.ownsRow base ty 1 v l.length (encL k l)) : ∃ A cap, v = .slice A l.length cap ∧ l.length ≤ cap ∧ Rd w k A l := by
  rcases h.2 with ⟨rfl, h0⟩ | ⟨g, cap, cur, rfl, _, hg, hc, _, hcs, ht⟩
  · exact ⟨none, 0, by rw [h0], by omega, fun i hi => by omega⟩
  · refine ⟨_, cap, rfl, hc, fun i hi => ⟨g, 0, rfl, ?_⟩⟩
    have := h.cells (g := g) rfl i (.int k (wb (l.getD i 0))) (by simp [encL, hi])
    have hadd : (⟨g, 0, none⟩ : Addr).add i = ⟨g, i, none⟩ := by unfold Addr.add; split <;> simp_all
    rw [hadd] at this
    rw [Nat.zero_add]
    exact this
attribute [local go_sem] bits_xor_u8 add_u32
set_option maxHeartbeats 6000000 in
theorem refXor_any (key nonce b : List (BitVec 8)) (ctr : BitVec 32) (A : Option Addr) (cap : Nat) (hk : key.length = 32) (hn : nonce.length = 12) (hlen : b.length ≤ 140737488351232) (w : World) (hR : Rd w .u8 A b) :
   Calls Try.prog 16 #[.agg (encs .u8 key), .int .u32 (wb ctr), .agg (encs .u8 nonce), .slice A b.length cap] w (RetRd w .u8 (chXor key ctr nonce b)) := by
  have HK := Lib.hid hk
  have HN := Lib.hid hn
  clear hk hn
  obtain ⟨X, HX, hXl, HXg⟩ : ∃ X, Hid (X = chXor key ctr nonce b) ∧ X.length = b.length ∧ Hid (∀ j k, k < 64 → 64 * j + k < b.length → X.getD (64 * j + k) 0 = b.getD (64 * j + k) 0 ^^^ (chBlock key (ctr + BitVec.ofNat 32 j) nonce).getD k 0) :=
    ⟨_, Lib.hid rfl, chXor_length _ _ _ _, Lib.hid fun j k => chXor_at key nonce b ctr j k⟩
  have HPost : Hid (∀ e w', RetRd w .u8 X e w' → RetRd w .u8 (chXor key ctr nonce b) e w') := by
    have := HX.out
    subst this
    exact fun _ _ h => h
  clear HX
  refine Calls.mono (R := RetRd w .u8 X) ?_ (fun e w' h => HPost.out e w' h)
  clear HPost
  generalize hln : b.length = len at *
  have HL := Lib.hid hln
  have HXL := Lib.hid hXl
  clear hln hXl
  have hl0 : (len : Int) ≤ 140737488351232 := by omega
  go_enter Try.func16, Try.ntmps16
  go_wp2_with fail
  go_loopw [9, 10] (fun v i wr => ∃ j : Nat, 64 * j < len + 64 ∧ i = .int .i64 ((64 * j : Nat) : Int) ∧ wr.ownsRow (w.heap.size + 1 + 1) 5 1 v (min (64 * j) len) (encL .u8 (X.take (64 * j))) ∧ Blk wr w.heap.size (encs .u8 key) 23 ∧ Blk wr (w.heap.size + 1) (encs .u8 nonce) 26 ∧ Below w.heap.size w wr ∧ w.heap.size + 1 + 1 ≤ wr.heap.size) (fun _ i _ => len + 64 - (intOf i).toNat)
  case atStart =>
    refine ⟨0, by omega, rfl, ?_, ?_, ?_, ?_, ?_⟩
    · simpa [encL] using World.ownsRow_nil _ _ _ _
    · exact (Blk.new_at _ _ _ _ rfl).alloc _
    · exact Blk.new_at _ _ _ _ (by simp)
    · exact ((Below.refl _ _).alloc (by omega) _).alloc (by simp) _
    · simp
  case round =>
    obtain ⟨j, hj, rfl, hV, hB0, hB1, hb, hsz⟩ := hrel
    by_cases hlt : 64 * j < len
    · have i1 : ((64 * j : Nat) : Int) < (len : Int) := by omega
      have hq : Int.tdiv (64 * (j : Int)) 64 = j := Int.mul_tdiv_cancel_left _ (by decide)
      have hcv : IntKind.u32.wrap (j : Int) = wb (BitVec.ofNat 32 j) := by rw [IntKind.wrap_u32]; simp [wb]
      go_wp2_with (first | (refine wpList_load_row rfl 23 _ rfl _ rfl 23 _ (0, 0) _ hB0 Try.underlying23 rfl (by rw [encs_size, HK.out]; exact size23) ?_) | (refine wpList_load_row rfl 26 _ rfl _ rfl 26 _ (0, 0) _ hB1 Try.underlying26 rfl (by rw [encs_size, HN.out]; exact size26) ?_) | fail)
      refine (refBlock_any _ _ _ HK.out HN.out _).mono ?_
      rintro e w2 ⟨rfl, hb2⟩
      clear hq hcv
      replace hV := owns_below hV hb2
      replace hB0 := hB0.below hb2 hB0.lt
      replace hB1 := hB1.below hb2 hB1.lt
      replace hb := hb.trans (hb2.mono hb.size)
      have hsz2 := hb2.size
      clear hb2
      have HB : Hid ((chBlock key (ctr + BitVec.ofNat 32 j) nonce).length = 64) := chBlock_length key (ctr + BitVec.ofNat 32 j) nonce
      have HS : Hid (∀ k, k < 64 → 64 * j + k < len → X.getD (64 * j + k) 0 = b.getD (64 * j + k) 0 ^^^ (chBlock key (ctr + BitVec.ofNat 32 j) nonce).getD k 0) := Lib.hid fun k => HXg.out j k
      generalize chBlock key (ctr + BitVec.ofNat 32 j) nonce = cb at *
      have hB64 : (64 * j : Int) + 64 ≤ 9223372036854775807 := by omega
      go_wp2_with (first | (refine wpList_store_last rfl 30 _ _ rfl _ _ _ 30 rfl rfl (by simp; done) (by rw [encs_size, HB.out]; exact size30) (by rw [encs_size, HB.out]; rfl) (encs_one _ _) ?_) | fail)
      obtain ⟨H, hH⟩ : ∃ H, H = w2.heap.size := ⟨_, rfl⟩
      have hHw : w.heap.size + 1 + 1 ≤ H := by omega
      have hne : u9.ownBlock ≠ some H := by
        intro h
        have := (hV.lt H h).2
        omega
      replace hV := hV.alloc (.cells (encs .u8 cb) 30)
      replace hB0 := hB0.alloc (.cells (encs .u8 cb) 30)
      replace hB1 := hB1.alloc (.cells (encs .u8 cb) 30)
      replace hb := hb.alloc hb.size (.cells (encs .u8 cb) 30)
      have hC : Blk (w2.alloc (.cells (encs .u8 cb) 30)) H (encs .u8 cb) 30 := Blk.new_at _ _ _ _ hH
      rw [← hH]
      generalize w2.alloc (.cells (encs .u8 cb) 30) = w3 at *
      clear hH hsz hsz2
      all_goals
        go_loopw [9, 12] (fun v i wr => ∃ k : Nat, k ≤ 64 ∧ 64 * j + k ≤ len ∧ i = .int .i64 ((64 * j : Nat) + (k : Nat) : Int) ∧ wr.ownsRow (w.heap.size + 1 + 1) 5 1 v (64 * j + k) (encL .u8 (X.take (64 * j + k))) ∧ v.ownBlock ≠ some H ∧ Blk wr w.heap.size (encs .u8 key) 23 ∧ Blk wr (w.heap.size + 1) (encs .u8 nonce) 26 ∧ Blk wr H (encs .u8 cb) 30 ∧ Below w.heap.size w wr) (fun _ i _ => 64 * j + 64 - (intOf i).toNat)
        case atStart => exact ⟨0, by omega, by omega, rfl, by simpa [show min (64 * j) len = 64 * j by omega] using hV, hne, hB0, hB1, hC, hb⟩
        case round =>
          clear hV hne hB0 hB1 hC hb
          obtain ⟨k, hk, hkl, rfl, hV, hne, hB0, hB1, hC, hb⟩ := hrel
          have hVlt := hV.lt
          have hsz := hC.lt
          by_cases hkt : k < 64 ∧ 64 * j + k < len
          · obtain ⟨hk1, hk2⟩ := hkt
            have i2 : (k : Int) < 64 := by omega
            have i3 : 64 * (j : Int) + (k : Int) < 64 * (j : Int) + 64 := by omega
            have i4 : 64 * (j : Int) + (k : Int) < (len : Int) := by omega
            have i5 : 0 ≤ 64 * (j : Int) + (k : Int) := by omega
            obtain ⟨g, off, rfl, hc⟩ := hR (64 * j + k) (by rw [HL.out]; omega)
            have hgw := World.block_lt_of_cell? w _ hc
            have hc' : wr.cell? ⟨g, off + (64 * j + k), none⟩ = some (.int .u8 (wb (b.getD (64 * j + k) 0))) := (hb.cell hgw).trans hc
            have hs := hC.word k (by rw [HB.out]; omega)
            have HE : Hid (encL .u8 (X.take (64 * j + k)) ++ [.int .u8 (wb (b.getD (64 * j + k) 0 ^^^ cb.getD k 0))] = encL .u8 (X.take (64 * j + (k + 1)))) := by
              have := encL_take .u8 X (64 * j + k) (by rw [HXL.out]; omega)
              rw [HS.out k hk1 hk2] at this
              exact Lib.hid this.symm
            clear hc
            generalize b.getD (64 * j + k) 0 = bk at *
            generalize cb.getD k 0 = ck at *
            go_wp2_with fail
            have s1 : IntKind.i64.wrap (64 * (j : Int) + (k : Int)) = 64 * (j : Int) + (k : Int) := IntWalk.i64_in _ (by omega)
            have s2 : (64 * (j : Int) + (k : Int)).toNat = 64 * j + k := by omega
            have s3 : IntKind.i64.wrap (64 * (j : Int) + (k : Int) - 64 * (j : Int)) = (k : Int) := by
              rw [show 64 * (j : Int) + (k : Int) - 64 * (j : Int) = (k : Int) by omega]
              exact IntWalk.i64_in _ (by omega)
            refine mix_start (fun w' => w'.cell? ⟨g, off + (64 * j + k), none⟩ = some (.int .u8 (wb bk)) ∧ w'.cell? ⟨H, k, none⟩ = some (.int .u8 (wb ck))) (List.range 14) [11, 12] [4, 9] [] (by kernel_rfl) (by kernel_rfl) (fun d _ _ _ _ h => by cases d <;> exact h) ⟨hc', hs⟩ ?_
            repeat (refine mix_pure rfl rfl (fun K hK => ?_); go_simp; refine hK _ ?_; clear hK K)
            refine mix_read (.int .u8 (wb bk)) rfl rfl rfl rfl (fun w' hS => ?_) ?_
            · have hc' := hS.1
              go_simp
            repeat (refine mix_pure rfl rfl (fun K hK => ?_); go_simp; refine hK _ ?_; clear hK K)
            refine mix_read (.int .u8 (wb ck)) rfl rfl rfl rfl (fun w' hS => ?_) ?_
            · have hc' := hS.2
              go_simp
            repeat (refine mix_pure rfl rfl (fun K hK => ?_); go_simp; refine hK _ ?_; clear hK K)
            refine mix_eff rfl rfl (fun K hK => ?_)
            go_simp
            refine hK _ _ (fun _ h => ⟨below_cell ((Below.refl _ _).alloc (Nat.le_refl _) _) h.1, below_cell ((Below.refl _ _).alloc (Nat.le_refl _) _) h.2⟩) ?_
            clear hK K hc' hs
            replace hV : (wr.drew.alloc (.cells #[.int .u8 (wb (bk ^^^ ck))] 5)).ownsRow (w.heap.size + 1 + 1) 5 1 u9 (64 * j + k) (encL .u8 (X.take (64 * j + k))) := hV.drew.alloc _
            obtain ⟨i5', hi5, hz5, hs5, hb5⟩ := info_parts mem5
            refine mix_eff rfl rfl (fun K hK => ?_)
            refine step_append_lies _ rfl _ _ 38 rfl (w.heap.size + 1 + 1) 5 i5' (.int .u8 0) 1 1 Try.underlying38 hi5 hz5 hs5 hb5 rfl (by decide) u9 (64 * j + k) _ rfl hV ⟨wr.heap.size, 0, none⟩ 1 1 [.int .u8 (wb (bk ^^^ ck))] rfl rfl (cell_one_new _ _ _) (by simp [Value.oneCell']) (by decide) (by simp only [maxLen]; omega) (by omega) (by simp; omega) _ rfl ?_
            intro g' cap' w' hV' hgr hat _
            have hown : ∀ q, u9.ownBlock = some q → w.heap.size + 1 + 1 ≤ q := fun q hq => (hVlt q hq).1
            have hfar : ∀ q, q < w.heap.size + 1 + 1 → u9.ownBlock ≠ some q := fun q hq h => by have := hown q h; omega
            refine hK _ _ (fun _ h => ⟨(hgr.cell_far _ (World.block_lt_of_cell? _ _ h.1) (fun h => hfar g (by omega) h.symm)).trans h.1, (hgr.cell_far _ (World.block_lt_of_cell? _ _ h.2) (fun h => hne h.symm)).trans h.2⟩) ?_
            clear hK K
            repeat (refine mix_pure rfl rfl (fun K hK => ?_); go_simp; refine hK _ ?_; clear hK K)
            refine mix_nil ?_
            rw [HE.out] at hV'
            have hB0' : Blk w' w.heap.size (encs .u8 key) 23 := (hB0.drew.alloc _).grown hgr (hfar _ (by omega))
            have hB1' : Blk w' (w.heap.size + 1) (encs .u8 nonce) 26 := (hB1.drew.alloc _).grown hgr (hfar _ (by omega))
            have hC' : Blk w' H (encs .u8 cb) 30 := (hC.drew.alloc _).grown hgr hne
            have hb' : Below w.heap.size w w' := below_grown (hb.drew.alloc hb.drew.size _) (by have := hb.size; simp; omega) hgr (fun q hq => by have := hown q hq; omega)
            have hne' : (Value.slice (some ⟨g', 0, none⟩) (64 * j + k + 1) cap').ownBlock ≠ some H := by
              intro h
              simp only [Value.ownBlock, Option.some.injEq] at h
              rcases hat with h1 | h1
              · exact hne (by rw [h1, h])
              · simp at h1
                omega
            clear hV hgr hat hown hfar
            go_wp2
            go_roundw
            case rel =>
              first | exact ⟨k + 1, by omega, by omega, by go_num, hV', hne', hB0', hB1', hC', hb'⟩ | ((repeat apply Exists.intro); exact ⟨⟨k + 1, by omega, by omega, by go_num, hV', hne', hB0', hB1', hC', hb'⟩, rfl⟩)
            case measure => simp [intOf]; omega
          · have hend : Hid (wr.ownsRow (w.heap.size + 1 + 1) 5 1 u9 (min (64 * (j + 1)) len) (encL .u8 (X.take (64 * (j + 1))))) := by
              by_cases h64 : k = 64
              · subst h64
                rw [show min (64 * (j + 1)) len = 64 * j + 64 by omega]
                exact hV
              · have he : 64 * j + k = len := by omega
                rw [show min (64 * (j + 1)) len = len by omega, List.take_of_length_le (by rw [HXL.out]; omega)]
                rw [he, List.take_of_length_le (by rw [HXL.out]; omega)] at hV
                exact hV
            have hsz' : w.heap.size + 1 + 1 ≤ wr.heap.size := by omega
            clear hV hVlt
            by_cases h64 : k < 64
            · have i2 : (k : Int) < 64 := by omega
              have i3 : 64 * (j : Int) + (k : Int) < 64 * (j : Int) + 64 := by omega
              have i4 : ¬ (64 * (j : Int) + (k : Int) < (len : Int)) := by omega
              go_wp2
              go_roundw
              case rel => first | exact ⟨j + 1, by omega, by go_num, hend.out, hB0, hB1, hb, hsz'⟩ | ((repeat apply Exists.intro); exact ⟨⟨j + 1, by omega, by go_num, hend.out, hB0, hB1, hb, hsz'⟩, rfl⟩)
              case measure => simp [intOf]; omega
            · have i2 : ¬ (k : Int) < 64 := by omega
              have i3 : ¬ 64 * (j : Int) + (k : Int) < 64 * (j : Int) + 64 := by omega
              go_wp2
              go_roundw
              case rel => first | exact ⟨j + 1, by omega, by go_num, hend.out, hB0, hB1, hb, hsz'⟩ | ((repeat apply Exists.intro); exact ⟨⟨j + 1, by omega, by go_num, hend.out, hB0, hB1, hb, hsz'⟩, rfl⟩)
              case measure => simp [intOf]; omega
    · have i1 : ¬ ((64 * j : Nat) : Int) < (len : Int) := by omega
      have hV2 : wr.ownsRow (w.heap.size + 1 + 1) 5 1 u9 X.length (encL .u8 X) := by
        rw [show min (64 * j) len = len by omega, List.take_of_length_le (by rw [HXL.out]; omega)] at hV
        rw [HXL.out]
        exact hV
      clear hV
      go_wp2
      go_ret
      obtain ⟨A', cap', he, hc, hr⟩ := ownsRow_rd hV2
      exact ⟨A', cap', by rw [he]; rfl, hc, hr, hb⟩
end Go.Proofs.Ytdpdpeifmignnaa
