/- sha's write: bytes are taken. -/
import Derived.Test.YtfamcgmgcchppaaShaStep
namespace Go.Proofs.Ytfamcgmgcchppaa
open Go.RowKit
set_option linter.unusedVariables false
set_option linter.unusedSimpArgs false
/-- Block g is a hash that took the bytes m; gk: the block of its words. -/
structure HashR (w : World) (g gk : Nat) (m : List (BitVec 8)) : Prop where
  ex : ∃ ok kc rest, Blk w g (hashL (shaSt m).l (.slice (some ⟨gk, ok, none⟩) 64 kc) rest m.length).toArray 101 ∧ Rd w .u32 (some ⟨gk, ok, none⟩) shK ∧ gk ≠ g ∧ rest.length = 64 ∧ rest.take (m.length % 64) = shaTl m
  le : m.length ≤ 1152921504606846976
theorem HashR.lt {w : World} {g gk : Nat} {m : List (BitVec 8)} (h : HashR w g gk m) : g < w.heap.size := by
  obtain ⟨_, _, _, hB, _⟩ := h.ex
  exact hB.lt
theorem HashR.klt {w : World} {g gk : Nat} {m : List (BitVec 8)} (h : HashR w g gk m) : gk < w.heap.size := by
  obtain ⟨_, _, _, _, hK, _⟩ := h.ex
  obtain ⟨_, _, he, hc⟩ := hK 0 (by rw [shK_length]; omega)
  cases he
  exact World.block_lt_of_cell? _ _ hc
theorem HashR.ne {w : World} {g gk : Nat} {m : List (BitVec 8)} (h : HashR w g gk m) : gk ≠ g := by
  obtain ⟨_, _, _, _, _, hne, _⟩ := h.ex
  exact hne
theorem HashR.below {w w' : World} {g gk : Nat} {m : List (BitVec 8)} (h : HashR w g gk m) (hb : Below w.heap.size w w') : HashR w' g gk m := by
  obtain ⟨ok, kc, rest, hB, hK, r⟩ := h.ex
  exact ⟨⟨ok, kc, rest, hB.below hb hB.lt, hK.below hb, r⟩, h.le⟩
theorem Rd.upd' {w w' : World} {k : IntKind} {n g : Nat} {A : Option Addr} {l : List (BitVec n)} (h : Rd w k A l) (hu : Upd g w w') (hne : ∀ a, A = some a → 0 < l.length → a.block ≠ g) : Rd w' k A l := fun i hi => by
  obtain ⟨g', off, rfl, hc⟩ := h i hi
  exact ⟨g', off, rfl, (World.cell?_of_block (hu.block g' (World.block_lt_of_cell? _ _ hc) (hne _ rfl (by omega)))).trans hc⟩
theorem HashR.upd {w w' : World} {g gk g' : Nat} {m : List (BitVec 8)} (h : HashR w g gk m) (hu : Upd g' w w') (hne : g ≠ g') (hnk : gk ≠ g') : HashR w' g gk m := by
  obtain ⟨ok, kc, rest, hB, hK, r⟩ := h.ex
  exact ⟨⟨ok, kc, rest, hB.upd hu hne, hK.upd' hu (fun a ha _ => by cases ha; exact hnk), r⟩, h.le⟩
theorem hash_n {w : World} {g : Nat} {s : List (BitVec 32)} {kv : Value} {rest : List (BitVec 8)} {n : Int} (h : Blk w g (hashL s kv rest n).toArray 101) (hs : s.length = 8) (hr : rest.length = 64) : w.cell? ⟨g, 73, none⟩ = some (.int .i64 n) :=
  h.cellSeg (encL .u32 s ++ ([kv] ++ encL .u8 rest)) [] (by simp [hashL]) (by simp [encL_length, hs, hr])
theorem hash_setn {w : World} {g : Nat} {s : List (BitVec 32)} {kv : Value} {rest : List (BitVec 8)} {n : Int} (h : Blk w g (hashL s kv rest n).toArray 101) (hs : s.length = 8) (hr : rest.length = 64) (n' : Int) : Blk (w.setCell ⟨g, 73, none⟩ (.int .i64 n')) g (hashL s kv rest n').toArray 101 := by
  have := h.set 73 (.int .i64 n')
  have e : (hashL s kv rest n).toArray.setIfInBounds 73 (.int .i64 n') = (hashL s kv rest n').toArray := by
    have e2 : hashL s kv rest n = (encL .u32 s ++ ([kv] ++ encL .u8 rest)) ++ [.int .i64 n] := by simp [hashL]
    have e3 : hashL s kv rest n' = (encL .u32 s ++ ([kv] ++ encL .u8 rest)) ++ [.int .i64 n'] := by simp [hashL]
    have e4 : (encL .u32 s ++ ([kv] ++ encL .u8 rest)).length = 73 := by simp [encL_length, hs, hr]
    rw [e2, e3, List.setIfInBounds_toArray, List.set_append_right _ _ (by omega), e4]
    rfl
  rwa [e] at this
theorem hash_rest {w : World} {g : Nat} {s : List (BitVec 32)} {kv : Value} {rest : List (BitVec 8)} {n : Int} (h : Blk w g (hashL s kv rest n).toArray 101) (hs : s.length = 8) : Rd w .u8 (some ⟨g, 9, none⟩) rest :=
  h.rdSeg (encL .u32 s ++ [kv]) [.int .i64 n] (by simp [hashL]) (by simp [encL_length, hs])
theorem over_rest (s : List (BitVec 32)) (kv : Value) (rest b : List (BitVec 8)) (n : Int) (hs : s.length = 8) (r : Nat) (h : r + b.length ≤ rest.length) : over (hashL s kv rest n).toArray (9 + r) (encL .u8 b) = (hashL s kv (overL rest r b) n).toArray := by
  unfold over
  have e4 : (encL .u32 s ++ [kv]).length = 9 := by simp [encL_length, hs]
  have e1 : hashL s kv rest n = (encL .u32 s ++ [kv]) ++ (encL .u8 rest ++ [.int .i64 n]) := by simp [hashL]
  have e2 : hashL s kv (overL rest r b) n = (encL .u32 s ++ [kv]) ++ (encL .u8 (overL rest r b) ++ [.int .i64 n]) := by simp [hashL]
  rw [e1, e2]
  congr 1
  rw [List.toList_toArray, encL_length, List.take_append, e4, List.take_of_length_le (by omega), show 9 + r - 9 = r by omega, List.drop_append, e4, List.drop_eq_nil_of_le (by omega), show 9 + r + b.length - 9 = r + b.length by omega,
    List.take_append_of_le_length (by rw [encL_length]; omega), List.drop_append_of_le_length (by rw [encL_length]; omega)]
  simp [overL, encL, List.map_take, List.map_drop]
theorem run_rest_from (g r : Nat) (h : r < 64) (wx : World) : (Instr.sliceAt 70 (.pointer (some ⟨g, 9, none⟩)) (some (.int .i64 (r : Int))) none none).run Try.prog wx = .ok (.slice (some ⟨g, 9 + r, none⟩) (64 - r) (64 - r)) wx := by
  have e : Try.prog.arrayLen 70 = 64 := by kernel_rfl
  have e2 : Try.prog.elem 70 = 5 := by kernel_rfl
  have hs : (sizeOf 5).run Try.prog wx = .ok 1 wx := by kernel_rfl
  have := run_sliceAt_array_l (P := Try.prog) wx 70 ⟨g, 9, none⟩ (by rw [e, e2]; exact Try.underlying70) .i64 (r : Int) (by omega) (by rw [e]; omega)
  rw [this, e, e2, hs]
  simp only [Result.andThen_ok, slicedAt, Int.toNat_natCast, Nat.mul_one]
  rw [if_neg (by omega), add_lit]
def sliceLen : Value → Nat
  | .slice _ n _ => n
  | _ => 0
theorem overL_take (rest b : List (BitVec 8)) (r : Nat) (h : r ≤ rest.length) : (overL rest r b).take (r + b.length) = rest.take r ++ b := by
  unfold overL
  rw [List.take_append_of_le_length (by rw [List.length_append, List.length_take]; omega), List.take_of_length_le (by rw [List.length_append, List.length_take]; omega)]
set_option maxRecDepth 100000 in
set_option maxHeartbeats 4000000 in
theorem write_any (g gk : Nat) (m b : List (BitVec 8)) (A : Option Addr) (cap : Nat) (w : World) (h : HashR w g gk m) (hR : Rd w .u8 A b) (hc : b.length ≤ cap) (hf : ∀ a, A = some a → 0 < b.length → a.block ≠ g) (hcap : b.length ≤ 281474976710656) (hlen : m.length + b.length ≤ 1152921504606846976) :
    Calls Try.prog 33 #[.pointer (some ⟨g, 0, none⟩), .slice A b.length cap] w fun e w' => e = .returned (.tuple #[]) ∧ HashR w' g gk (m ++ b) ∧ Upd g w w' := by
  obtain ⟨ok, kc, rest, hB, hK, hkg, hr64, htl⟩ := h.ex
  clear h
  obtain ⟨M, hM⟩ : ∃ M, M = m ++ b := ⟨_, rfl⟩
  have hML : M.length = m.length + b.length := by rw [hM, List.length_append]
  obtain ⟨r, hr⟩ : ∃ r, r = m.length % 64 := ⟨_, rfl⟩
  have hrem : (m.length : Int) % 64 = (r : Int) := by omega
  have hsum : (m.length : Int) + (b.length : Int) = (M.length : Int) := by omega
  have HREM := Lib.hid hrem
  have HSUM := Lib.hid hsum
  clear hrem hsum
  rw [← hM]
  have cn := hash_n hB rfl hr64
  have fn := hB.frozen 73
  have hBn := hash_setn hB rfl hr64 ((m.length : Int) + (b.length : Int))
  have hu : Upd g w (w.setCell ⟨g, 73, none⟩ (.int .i64 ((m.length : Int) + (b.length : Int)))) := (Upd.refl _ _).setCell _ _
  have hRn := hR.upd' hu hf
  have hKn := hK.upd' hu (fun a ha _ => by cases ha; exact hkg)
  have hsz : Hid ((hashL (shaSt m).l (.slice (some ⟨gk, ok, none⟩) 64 kc) rest ((m.length : Int) + (b.length : Int))).toArray.size = 74) := by show _ = _; rw [List.size_toArray, hashL_length _ _ _ _ rfl hr64]
  have HK0 := Lib.hid hK
  have HKG := Lib.hid hkg
  have HML := Lib.hid hML
  have HLEN := Lib.hid hlen
  have HMLE : Hid (M.length ≤ 1152921504606846976) := by show _ ≤ _; omega
  clear hB hR hK
  by_cases h0 : r = 0
  case' pos =>
    have t0 : ¬ (0 : Int) < (m.length : Int) % 64 := by have := HREM.out; omega
    go_enter Try.func33, Try.ntmps33
    go_wp2_with fail
    rw [HREM.out, HSUM.out]
    rw [HSUM.out] at hBn hu hRn hKn
    generalize w.setCell ⟨g, 73, none⟩ (.int .i64 (M.length : Int)) = w1 at *
    clear cn fn hKn
    have h1 : m.length % 64 = 0 := by omega
    have hm := hM.symm
    clear htl hM hML hlen HREM HSUM h0 t0 hr hsz
    obtain ⟨b1, eb⟩ : ∃ x, x = b := ⟨_, rfl⟩
    obtain ⟨m1, em⟩ : ∃ x, x = m := ⟨_, rfl⟩
    rw [← eb] at hRn hc hm hcap hf ⊢
    rw [← em] at hm h1 hBn
    clear eb em
    obtain ⟨A1, eA⟩ : ∃ x, x = A := ⟨_, rfl⟩
    rw [← eA] at hRn hf ⊢
    obtain ⟨c1, ec⟩ : ∃ x, x = cap := ⟨_, rfl⟩
    rw [← ec] at hc ⊢
    clear eA ec
    obtain ⟨rest1, er⟩ : ∃ x, x = rest := ⟨_, rfl⟩
    rw [← er] at hBn hr64
    clear er HML HLEN
  case' neg =>
    have t0 : (0 : Int) < (m.length : Int) % 64 := by have := HREM.out; omega
    have hrl : r < 64 := by omega
    have hsl := fun wx => run_rest_from g r hrl wx
    rw [← HREM.out] at hsl
    by_cases hfull : r + b.length < 64
    case' pos =>
      have t1 : (m.length : Int) % 64 + (b.length : Int) < 64 := by have := HREM.out; omega
      have hs2 := fun wx => run_slice_from (P := Try.prog) bytesT A b.length cap (b.length : Int) .i64 (by omega) (by omega) wx
      have hmin : Hid (min b.length (64 - r) = b.length) := by show _ = _; omega
      rw [hr] at hmin
      have hT : Hid ((encL .u8 b).take (64 - r) = encL .u8 b) := by show _ = _; rw [List.take_of_length_le]; rw [encL_length]; omega
      rw [hr] at hT
      have hO := Lib.hid (over_rest (shaSt m).l (.slice (some ⟨gk, ok, none⟩) 64 kc) rest b ((m.length : Int) + (b.length : Int)) rfl r (by omega))
      rw [hr] at hO
      have hfin : Hid (∀ w', Blk w' g (hashL (shaSt m).l (.slice (some ⟨gk, ok, none⟩) 64 kc) (overL rest (m.length % 64) b) M.length).toArray 101 → Upd g w w' → HashR w' g gk M) := fun w' hB hu' => by
        have hs := sha_less m b (by omega)
        rw [← hM] at hs
        refine ⟨⟨ok, kc, overL rest (m.length % 64) b, by rw [hs.1]; exact hB, HK0.out.upd' hu' (fun a ha _ => by cases ha; exact HKG.out), HKG.out, by rw [overL_length _ _ _ (by omega)]; exact hr64, ?_⟩, by omega⟩
        rw [hs.2, show M.length % 64 = m.length % 64 + b.length by omega, overL_take _ _ _ (by omega), htl]
      go_enter Try.func33, Try.ntmps33
      go_wp2_with (first | (refine wpList_copy_blk rfl _ _ 22 22 5 rfl Try.underlying22 (by kernel_rfl) g (9 + m.length % 64) (64 - m.length % 64) _ rfl _ _ hBn A b.length cap (encL .u8 b) (by rw [encL_length]) rfl hRn.cells (encL_one _ _) (by rw [hsz.out]; omega) ?_; intro w2 hB2 hu2; rw [hmin.out]; rw [hT.out, hO.out, HSUM.out] at hB2) | fail)
      refine bodyPost_ret (results_none rfl _ _ _) rfl ?_
      exact ⟨rfl, hfin.out _ hB2 (hu.trans hu2), hu.trans hu2⟩
    case' neg =>
      have t1 : ¬ (m.length : Int) % 64 + ((64 - m.length % 64 : Nat) : Int) < 64 := by omega
      have hs2 := fun wx => run_slice_from (P := Try.prog) bytesT A b.length cap ((64 - m.length % 64 : Nat) : Int) .i64 (by omega) (by omega) wx
      rw [Int.toNat_natCast] at hs2
      have hmin : Hid (min b.length (64 - m.length % 64) = 64 - m.length % 64) := by show _ = _; omega
      have hT : Hid ((encL .u8 b).take (64 - m.length % 64) = encL .u8 (b.take (64 - m.length % 64))) := by show _ = _; simp [encL, List.map_take]
      have hbt : (b.take (64 - m.length % 64)).length = 64 - m.length % 64 := by rw [List.length_take]; omega
      have hO := Lib.hid (over_rest (shaSt m).l (.slice (some ⟨gk, ok, none⟩) 64 kc) rest (b.take (64 - m.length % 64)) ((m.length : Int) + (b.length : Int)) rfl (m.length % 64) (by omega))
      have hof : overL rest (m.length % 64) (b.take (64 - m.length % 64)) = shaTl m ++ b.take (64 - m.length % 64) := by
        unfold overL
        rw [htl, hbt, List.drop_of_length_le (by omega), List.append_nil]
      have hfl : (shaTl m ++ b.take (64 - m.length % 64)).length = 64 := by rw [List.length_append, shaTl_length, hbt]; omega
      have HF := sha_fill m (b.take (64 - m.length % 64)) (by rw [hbt]; omega)
      have HF1 := Lib.hid HF.1
      have h1 : (m ++ b.take (64 - m.length % 64)).length % 64 = 0 := by rw [List.length_append, hbt]; omega
      have hm : (m ++ b.take (64 - m.length % 64)) ++ b.drop (64 - m.length % 64) = M := by rw [List.append_assoc, List.take_append_drop, hM]
      have hR1 := rd_cut hRn (64 - m.length % 64) (b.length - (64 - m.length % 64)) cap hc
      rw [List.take_of_length_le (by rw [List.length_drop]; omega)] at hR1
      have hdl : b.length - (64 - m.length % 64) = (b.drop (64 - m.length % 64)).length := by rw [List.length_drop]
      have hc1 : (b.drop (64 - m.length % 64)).length ≤ cap - (64 - m.length % 64) := by rw [List.length_drop]; omega
      have hcap1 : (b.drop (64 - m.length % 64)).length ≤ 281474976710656 := by rw [List.length_drop]; omega
      have hf1 : ∀ a, cutA A (64 - m.length % 64) cap 1 = some a → 0 < (b.drop (64 - m.length % 64)).length → a.block ≠ g := fun a ha hl => by
        obtain ⟨a', h1, h2⟩ := cutA_block ha
        rw [h2]
        exact hf a' h1 (by rw [List.length_drop] at hl; omega)
      have HD := Lib.hid hdl
      have HOF := Lib.hid hof
      have HFL := Lib.hid hfl
      have H1 := Lib.hid h1
      have HM1 := Lib.hid hm
      have HC1 := Lib.hid hc1
      have HCAP1 := Lib.hid hcap1
      have HR1 := Lib.hid hR1
      have HF2 := Lib.hid hf1
      have HR64 := Lib.hid hr64
      clear hdl hof hfl h1 hm hc1 hcap1 hR1 hf1 HF hbt htl hM hML hrl hfull h0 hr64
      go_enter Try.func33, Try.ntmps33
      go_wp2_with (first | (refine wpList_copy_blk rfl _ _ 22 22 5 rfl Try.underlying22 (by kernel_rfl) g (9 + m.length % 64) (64 - m.length % 64) _ rfl _ _ hBn A b.length cap (encL .u8 b) (by rw [encL_length]) rfl hRn.cells (encL_one _ _) (by rw [hsz.out]; omega) ?_; intro w2 hB2 hu2; rw [hmin.out]; rw [hT.out, hO.out, HSUM.out, HOF.out] at hB2) | fail)
      replace hu := hu.trans hu2
      refine (step_any g (shaSt m) (some ⟨gk, ok, none⟩) kc (shaTl m ++ b.take (64 - m.length % 64)) M.length (shaTl m ++ b.take (64 - m.length % 64)) (some ⟨g, 9, none⟩) 64 64 w2 hB2 (HK0.out.upd' hu (fun a ha _ => by cases ha; exact HKG.out)) (fun a ha => by cases ha; exact HKG.out) HFL.out (hash_rest hB2 rfl) (by rw [HFL.out]; omega) HFL.out).mono ?_
      rintro e w1 ⟨rfl, hBn1, hu3⟩
      replace hu := hu.trans hu3
      rw [← HF1.out] at hBn1
      go_wp2_with fail
      rw [HD.out]
      have h1 := H1.out
      have hm := HM1.out
      have hR1 : Rd w1 .u8 (cutA A (64 - m.length % 64) cap 1) (b.drop (64 - m.length % 64)) := by
        refine (HR1.out.upd' hu2 HF2.out).upd' hu3 HF2.out
      have hc1 := HC1.out
      have hcap1 := HCAP1.out
      have hf1 := HF2.out
      have hr1 := HFL.out
      clear HD H1 HM1 HR1 HC1 HCAP1 HF2 HFL HOF hO hT hmin hsl hs2 t0 t1 hBn hB2 hu2 hu3 HREM HSUM hsz HF1 hRn hKn cn fn hc hf hcap HML HLEN HR64
      generalize b.drop (64 - m.length % 64) = b1 at *
      generalize shaTl m ++ b.take (64 - m.length % 64) = rest1 at *
      generalize m ++ b.take (64 - m.length % 64) = m1 at *
      generalize cutA A (64 - m.length % 64) cap 1 = A1 at *
      generalize cap - (64 - m.length % 64) = c1 at *
      have hBn := hBn1
      have hRn := hR1
      have hc := hc1
      have hcap := hcap1
      have hf := hf1
      have hr64 := hr1
      clear hBn1 hR1 hc1 hcap1 hf1 hr1
  all_goals
    go_loopw [1] (fun v wr => ∃ (m1 b1 rest1 : List (BitVec 8)) (A1 : Option Addr) (c1 : Nat), v = .slice A1 b1.length c1 ∧ m1 ++ b1 = M ∧ m1.length % 64 = 0 ∧ b1.length ≤ 281474976710656 ∧ Rd wr .u8 A1 b1 ∧ b1.length ≤ c1 ∧ (∀ a, A1 = some a → 0 < b1.length → a.block ≠ g) ∧ Blk wr g (hashL (shaSt m1).l (.slice (some ⟨gk, ok, none⟩) 64 kc) rest1 M.length).toArray 101 ∧ rest1.length = 64 ∧ Upd g w wr) (fun v _ => sliceLen v)
    case atStart => exact ⟨m1, b1, rest1, A1, c1, rfl, hm, h1, hcap, hRn, hc, hf, hBn, hr64, hu⟩
    case round =>
      clear hm h1 hcap hRn hc hf hBn hr64 hu
      obtain ⟨m1, b1, rest1, A1, c1, rfl, hm, h1, hcap, hR, hc, hf, hB, hr64, hu⟩ := hrel
      by_cases h64 : 64 ≤ b1.length
      · have i1 : (64 : Int) ≤ (b1.length : Int) := by omega
        have hs2 := fun wx => run_slice_from (P := Try.prog) bytesT A1 b1.length c1 64 .i64 (by omega) (by omega) wx
        rw [show (64 : Int).toNat = 64 from rfl] at hs2
        go_wp2_with fail
        refine (step_any g (shaSt m1) (some ⟨gk, ok, none⟩) kc rest1 M.length b1 A1 b1.length c1 wr hB (HK0.out.upd' hu (fun a ha _ => by cases ha; exact HKG.out)) (fun a ha => by cases ha; exact HKG.out) hr64 hR h64 rfl).mono ?_
        rintro e w3 ⟨rfl, hB3, hu3⟩
        have hbl := sha_block m1 (b1.take 64) h1 (by rw [List.length_take]; omega)
        rw [comp_take] at hbl
        rw [← hbl.1] at hB3
        have hR3 := rd_cut (hR.upd' hu3 hf) 64 (b1.length - 64) c1 hc
        rw [List.take_of_length_le (by rw [List.length_drop]; exact Nat.le_refl _)] at hR3
        have hf3 : ∀ a, cutA A1 64 c1 1 = some a → 0 < (b1.drop 64).length → a.block ≠ g := fun a ha hl => by
          obtain ⟨a', h1, h2⟩ := cutA_block ha
          rw [h2]
          exact hf a' h1 (by rw [List.length_drop] at hl; omega)
        go_wp2_with fail
        go_roundw
        case rel =>
          first | exact ⟨m1 ++ b1.take 64, b1.drop 64, rest1, cutA A1 64 c1 1, c1 - 64, by rw [List.length_drop], by rw [List.append_assoc, List.take_append_drop, hm], by rw [List.length_append, List.length_take]; omega, by rw [List.length_drop]; omega, hR3, by rw [List.length_drop]; omega, hf3, hB3, hr64, hu.trans hu3⟩ | ((repeat apply Exists.intro); exact ⟨⟨m1 ++ b1.take 64, b1.drop 64, rest1, cutA A1 64 c1 1, c1 - 64, by rw [List.length_drop], by rw [List.append_assoc, List.take_append_drop, hm], by rw [List.length_append, List.length_take]; omega, by rw [List.length_drop]; omega, hR3, by rw [List.length_drop]; omega, hf3, hB3, hr64, hu.trans hu3⟩, rfl⟩)
        case measure => simp [sliceLen]; omega
      · have i1 : ¬ (64 : Int) ≤ (b1.length : Int) := by omega
        have hmin : Hid ((encL .u8 b1).take 64 = encL .u8 b1) := by show _ = _; rw [List.take_of_length_le]; rw [encL_length]; omega
        have hO := Lib.hid (over_rest (shaSt m1).l (.slice (some ⟨gk, ok, none⟩) 64 kc) rest1 b1 M.length rfl 0 (by omega))
        have hsz1 : Hid ((hashL (shaSt m1).l (.slice (some ⟨gk, ok, none⟩) 64 kc) rest1 M.length).toArray.size = 74) := by show _ = _; rw [List.size_toArray, hashL_length _ _ _ _ rfl hr64]
        go_wp2_with (first | (refine wpList_copy_blk rfl _ _ 22 22 5 rfl Try.underlying22 (by kernel_rfl) g 9 64 _ rfl _ _ hB A1 b1.length c1 (encL .u8 b1) (by rw [encL_length]) rfl hR.cells (encL_one _ _) (by rw [hsz1.out]; omega) ?_; intro w4 hB4 hu4; rw [hmin.out, hO.out] at hB4) | fail)
        go_end0
        have hs := sha_less m1 b1 (by omega)
        rw [hm] at hs
        have hML1 : M.length = m1.length + b1.length := by rw [← hm, List.length_append]
        refine ⟨rfl, ⟨⟨ok, kc, overL rest1 0 b1, by rw [hs.1]; exact hB4, HK0.out.upd' (hu.trans hu4) (fun a ha _ => by cases ha; exact HKG.out), HKG.out, by rw [overL_length _ _ _ (by omega)]; exact hr64, ?_⟩, HMLE.out⟩, hu.trans hu4⟩
        rw [hs.2, shaTl_whole m1 h1, List.nil_append, show M.length % 64 = 0 + b1.length by omega, overL_take _ _ _ (by omega), List.take_zero, List.nil_append]
end Go.Proofs.Ytfamcgmgcchppaa
