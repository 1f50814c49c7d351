/- The closure of Hmac: a hash that took the key's block, each byte turned. -/
import Derived.Test.YtgcdjickkbiglaaKdfMix
import Derived.Test.YtgcdjickkbiglaaShaSum
namespace Go.Proofs.Ytgcdjickkbiglaa
open Go.RowKit
set_option linter.unusedVariables false
set_option linter.unusedSimpArgs false
attribute [local go_sem] bits_xor_u8
set_option maxRecDepth 100000 in
set_option maxHeartbeats 4000000 in
theorem pad1_any (x : BitVec 8) (gc gk : Nat) (K : List (BitVec 8)) (w : World) (hc : w.cell? ⟨gc, 0, none⟩ = some (.slice (some ⟨gk, 0, none⟩) 64 64)) (hR : Rd w .u8 (some ⟨gk, 0, none⟩) K) (hK : K.length = 64) :
    Calls Try.prog 27 #[.int .u8 (wb x), .pointer (some ⟨gc, 0, none⟩)] w fun e w' => ∃ g gk', e = .returned (.pointer (some ⟨g, 0, none⟩)) ∧ HashR w' g gk' (K.map (· ^^^ x)) ∧ w.heap.size ≤ g ∧ w.heap.size ≤ gk' ∧ Below w.heap.size w w' := by
  have HR := Lib.hid hR
  have HK := Lib.hid hK
  have hcl := World.block_lt_of_cell? _ _ hc
  simp only at hcl
  go_enter Try.func27, Try.ntmps27
  go_wp2_with fail
  refine (new_any w).mono ?_
  rintro e w1 ⟨g, gk', rfl, hg, hge, hgek, hb⟩
  have hc1 : w1.cell? ⟨gc, 0, none⟩ = some (.slice (some ⟨gk, 0, none⟩) 64 64) := (World.cell?_of_block (hb.block gc hcl)).trans hc
  go_wp2_with fail
  have hcl2 := clone_any K (some ⟨gk, 0, none⟩) 64 w1 (HR.out.below hb) (by omega)
  rw [hK] at hcl2
  refine hcl2.mono ?_
  rintro e w2 ⟨v, rfl, hown0, hn⟩
  have hown : OwnB w2 w1.heap.size v K := hown0
  have hg1 := hg.lt
  have hg2 := hg.klt
  have hgn := hg.ne
  have hs1 := hb.size
  replace hg := hg.below hn
  replace hb := hb.trans (hn.mono hb.size)
  have hs2 := hn.size
  clear hn hown0 hc hc1 hR hcl2
  obtain ⟨A, c, rfl, hcc, _, _, hnone, hsome⟩ := owns_form hown
  cases A with
  | none => exact absurd (hnone rfl).1 (by omega)
  | some q =>
  obtain ⟨g3, off, spot⟩ := q
  obtain ⟨h1, h2, h3, h4, _⟩ := hsome _ rfl
  simp only at h1 h2 h3 h4
  subst h1 h2
  clear hnone hsome
  have hown1 : OwnB w2 w1.heap.size (.slice (some ⟨g3, 0, none⟩) 64 c) K := by rw [← hK]; exact hown
  clear hown
  rw [hK] at hcc
  rw [hK]
  go_wp2_with fail
  go_loopw [12] (fun vi wx => ∃ j : Nat, j ≤ 64 ∧ vi = .int .i64 j ∧ OwnB wx w1.heap.size (.slice (some ⟨g3, 0, none⟩) 64 c) (mixL K x j) ∧ Upd g3 w2 wx) (fun vi _ => 64 - (intOf vi).toNat)
  case atStart => exact ⟨0, by omega, rfl, by rw [mixL_zero]; exact hown1, Upd.refl _ _⟩
  case round =>
    clear hown1
    obtain ⟨j, hj, rfl, hq, hu⟩ := hrel
    by_cases hjl : j < 64
    · have m1 : (j : Int) < (64 : Int) := by omega
      obtain ⟨c1, f1, st⟩ := own_store hq (by rw [mixL_length]; exact HK.out) j hjl
      rw [mixL_get _ _ _ (by rw [HK.out]; exact hjl)] at c1
      have hst := st (K.getD j 0 ^^^ x)
      rw [mixL_set _ _ _ (by rw [HK.out]; exact hjl)] at hst
      clear st
      generalize K.getD j 0 = y at *
      go_wp2_with fail
      go_roundw
      case rel =>
        first | exact ⟨j + 1, by omega, by go_num, hst, hu.setCell _ _⟩ | ((repeat apply Exists.intro); exact ⟨⟨j + 1, by omega, by go_num, hst, hu.setCell _ _⟩, rfl⟩)
      case measure => simp [intOf]; omega
    · obtain rfl : j = 64 := by omega
      have hq2 := mixL_all K x
      rw [HK.out] at hq2
      rw [hq2] at hq
      clear hq2
      have m1 : ¬ (64 : Int) < (64 : Int) := by omega
      have hg5 := hg.upd hu (by omega) (by omega)
      have hb5 := Upd.below hb hu (by omega) hb.size
      have hl : (K.map (· ^^^ x)).length = 64 := by rw [List.length_map]; exact HK.out
      have hrd : Rd wr .u8 (some ⟨g3, 0, none⟩) (K.map (· ^^^ x)) := by
        obtain ⟨A', c', he, _, hr⟩ := OwnB.arg hq
        simp only [Value.slice.injEq] at he
        obtain ⟨rfl, _, _⟩ := he
        exact hr
      have hw := mwrite_any g gk' [] (K.map (· ^^^ x)) (some ⟨g3, 0, none⟩) c _ hg5 hrd (by rw [hl]; exact hcc) (fun a ha _ => by cases ha; show g3 ≠ g; omega) (by omega) (by simp; omega)
      rw [hl, List.nil_append] at hw
      clear hq hu hg hrd
      go_wp2_with fail
      refine hw.mono ?_
      rintro e w6 ⟨rfl, hg6, hu⟩
      go_wp2_with fail
      go_ret
      exact ⟨g, gk', rfl, hg6, hge, hgek, Upd.below hb5 hu hge hb5.size⟩
end Go.Proofs.Ytgcdjickkbiglaa
