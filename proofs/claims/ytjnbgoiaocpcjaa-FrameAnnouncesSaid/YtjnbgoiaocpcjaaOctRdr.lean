/- octet's reader: what it takes off, and what it refuses. -/
import Derived.Test.YtjnbgoiaocpcjaaOctBoth
import Derived.WalkSmall
namespace Go.Proofs.Ytjnbgoiaocpcjaa
open Go.RowKit
/-- May so many bytes be taken? -/
def rdOkB (len at_ : Nat) (err n : Int) : Bool := decide (err = 0) && decide (0 ≤ n) && decide (n ≤ (len : Int) - (at_ : Int))
def rdErr (len at_ : Nat) (err n : Int) : Int := if err = 0 then if n < 0 then 2 else if n > (len : Int) - (at_ : Int) then 110 else 0 else err
def rdAt (len at_ : Nat) (err n : Int) : Nat := if rdOkB len at_ err n then at_ + n.toNat else at_
def rdGot (b : List (BitVec 8)) (at_ : Nat) (err n : Int) : List (BitVec 8) := if rdOkB b.length at_ err n then (b.drop at_).take n.toNat else []
/-- A reader: its block, the bytes, how many were taken, its error. -/
structure Rdr (w : World) (g : Nat) (A : Option Addr) (cap : Nat) (b : List (BitVec 8)) (at_ : Nat) (err : Int) : Prop where
  blk : Blk w g #[.slice A b.length cap, .int .i64 at_, .int .i64 err] 121
  rd : Rd w .u8 A b
  far : ∀ a, A = some a → a.block ≠ g
  hcap : b.length ≤ cap
  hle : at_ ≤ b.length
  hlen : b.length ≤ 140737488355328
theorem Rd.upd {w w' : World} {k : IntKind} {n g : Nat} {A : Option Addr} {l : List (BitVec n)} (h : Rd w k A l) (hu : Upd g w w') (hne : ∀ a, A = some a → a.block ≠ g) : Rd w' k A l := fun i hi => by
  obtain ⟨g', off, rfl, hc⟩ := h i hi
  exact ⟨g', off, rfl, (World.cell?_of_block (hu.block g' (World.block_lt_of_cell? _ _ hc) (hne _ rfl))).trans hc⟩
theorem Rdr.below {w w' : World} {g : Nat} {A : Option Addr} {cap : Nat} {b : List (BitVec 8)} {at_ : Nat} {err : Int} (h : Rdr w g A cap b at_ err) (hb : Below w.heap.size w w') : Rdr w' g A cap b at_ err :=
  ⟨h.blk.below hb h.blk.lt, h.rd.below hb, h.far, h.hcap, h.hle, h.hlen⟩
/-- What take hands back. -/
def Took (w : World) (g : Nat) (A : Option Addr) (cap : Nat) (b : List (BitVec 8)) (at_ : Nat) (err n : Int) (e : Ending) (w' : World) : Prop :=
  ∃ A' cap', e = .returned (.slice A' (rdGot b at_ err n).length cap') ∧ Rd w' .u8 A' (rdGot b at_ err n) ∧ Rdr w' g A cap b (rdAt b.length at_ err n) (rdErr b.length at_ err n) ∧ Upd g w w'
theorem upd_drewN {g : Nat} {w : World} (n : Nat) : Upd g w (w.drewN n) := ⟨rfl, rfl, rfl, Nat.le_refl _, fun _ _ _ => rfl⟩
set_option maxHeartbeats 2000000 in
theorem take_any (g : Nat) (A : Option Addr) (cap : Nat) (b : List (BitVec 8)) (at_ : Nat) (err n : Int) (w : World) (h : Rdr w g A cap b at_ err) :
    Calls Try.prog 75 #[.pointer (some ⟨g, 0, none⟩), .int .i64 n] w (Took w g A cap b at_ err n) := by
  have HR := Lib.hid h
  have c0 : w.cell? ⟨g, 0, none⟩ = some (.slice A b.length cap) := by rw [h.blk.cell]; rfl
  have c1 : w.cell? ⟨g, 1, none⟩ = some (.int .i64 at_) := by rw [h.blk.cell]; rfl
  have c2 : w.cell? ⟨g, 2, none⟩ = some (.int .i64 err) := by rw [h.blk.cell]; rfl
  have f1 := h.blk.frozen 1
  have f2 := h.blk.frozen 2
  have hle : (at_ : Int) ≤ (b.length : Int) := by have := h.hle; omega
  have hlen : (b.length : Int) ≤ 140737488355328 := by have := h.hlen; omega
  have hcap : (b.length : Int) ≤ (cap : Int) := by have := h.hcap; omega
  clear h
  by_cases he : err = 0
  · subst he
    have e1 : ((0 : Int) != 0) = false := rfl
    by_cases hn : n < 0
    · have hfin : Took w g A cap b at_ 0 n (.returned (.slice none 0 0)) (w.setCell ⟨g, 2, none⟩ (.int .i64 2)) := by
        have hok : rdOkB b.length at_ 0 n = false := by simp [rdOkB]; omega
        have e2 : rdErr b.length at_ 0 n = 2 := by simp [rdErr, hn]
        refine ⟨none, 0, by simp [rdGot, hok], by simp only [rdGot, hok]; exact Rd.nil, ?_, (Upd.refl _ _).setCell _ _⟩
        rw [e2]
        simp only [rdAt, hok]
        refine ⟨HR.out.blk.set 2 _, HR.out.rd.upd ((Upd.refl _ _).setCell _ _) HR.out.far, HR.out.far, HR.out.hcap, HR.out.hle, HR.out.hlen⟩
      have HF := Lib.hid hfin
      clear hfin
      go_enter Try.func75, Try.ntmps75
      go_wp2_with fail
      go_ret
      exact HF.out
    · by_cases hs : n > (b.length : Int) - (at_ : Int)
      · have hfin : ∀ m, Took w g A cap b at_ 0 n (.returned (.slice none 0 0)) ((w.drewN m).setCell ⟨g, 2, none⟩ (.int .i64 110)) := fun m => by
          have hok : rdOkB b.length at_ 0 n = false := by simp [rdOkB]; omega
          have e2 : rdErr b.length at_ 0 n = 110 := by simp [rdErr, hn, hs]
          refine ⟨none, 0, by simp [rdGot, hok], by simp only [rdGot, hok]; exact Rd.nil, ?_, (upd_drewN m).setCell _ _⟩
          rw [e2]
          simp only [rdAt, hok]
          refine ⟨Blk.set (w := w.drewN m) HR.out.blk 2 _, HR.out.rd.upd ((upd_drewN m).setCell _ _) HR.out.far, HR.out.far, HR.out.hcap, HR.out.hle, HR.out.hlen⟩
        have HF := Lib.hid hfin
        clear hfin
        generalize b.length = len at c0 hle hlen hcap hs
        go_enter Try.func75, Try.ntmps75
        go_wp2_with fail
        go_quiet (fail)
        go_wp2_with fail
        go_ret
        exact HF.out _
      · obtain ⟨m, rfl⟩ := Int.eq_ofNat_of_zero_le (show 0 ≤ n by omega)
        have hs' : (at_ : Int) + (m : Int) ≤ (b.length : Int) := by omega
        have hfin : ∀ q q' A' cap' L, L = m → (0 < m → Rd w .u8 A' ((b.drop at_).take m)) → (∀ a, A' = some a → a.block ≠ g ∨ m = 0) → Took w g A cap b at_ 0 m (.returned (.slice A' L cap')) (((w.drewN q).setCell ⟨g, 1, none⟩ (.int .i64 ((at_ : Int) + (m : Int)))).drewN q') := fun q q' A' cap' L hL hA hA2 => by
          subst L
          have hok : rdOkB b.length at_ 0 m = true := by simp [rdOkB]; omega
          have e2 : rdErr b.length at_ 0 m = 0 := by simp [rdErr, hn]; omega
          have e3 : rdAt b.length at_ 0 m = at_ + m := by simp [rdAt, hok]
          have e4 : rdGot b at_ 0 m = (b.drop at_).take m := by simp [rdGot, hok]
          have e5 : ((b.drop at_).take m).length = m := by rw [List.length_take, List.length_drop]; omega
          have hU : Upd g w (((w.drewN q).setCell ⟨g, 1, none⟩ (.int .i64 ((at_ : Int) + (m : Int)))).drewN q') := ((upd_drewN q).setCell _ _).trans (upd_drewN q')
          refine ⟨A', cap', by rw [e4, e5], ?_, ?_, hU⟩
          · rw [e4]
            by_cases h0 : m = 0
            · subst h0
              simp only [List.take_zero]
              exact Rd.nil
            · exact (hA (by omega)).upd hU (fun a ha => (hA2 a ha).resolve_right h0)
          · rw [e2, e3]
            have hB := Blk.set (w := w.drewN q) HR.out.blk 1 (.int .i64 ((at_ : Int) + (m : Int)))
            exact ⟨hB, HR.out.rd.upd hU HR.out.far, HR.out.far, HR.out.hcap, by omega, HR.out.hlen⟩
        have HF := Lib.hid hfin
        clear hfin
        have i0 : ¬ ((m : Int) < 0) := by omega
        have i1 : ¬ ((m : Int) > (b.length : Int) - (at_ : Int)) := by omega
        obtain ⟨A', hA'⟩ : ∃ A', A' = cutA A at_ cap 1 := ⟨_, rfl⟩
        have HT : Hid (Rd w .u8 A' ((b.drop at_).take m)) := by rw [hA']; exact rd_cut HR.out.rd at_ m cap (by omega)
        have HA : Hid (∀ a, A' = some a → a.block ≠ g ∨ m = 0) := fun a ha => by
          rw [hA'] at ha
          obtain ⟨a', h1, h2⟩ := cutA_block ha
          rw [h2]
          exact .inl (HR.out.far _ h1)
        have hz : ∀ wx, (Instr.slice 38 (.slice A b.length cap) (some (.int .i64 at_)) (some (.int .i64 ((at_ : Int) + (m : Int)))) none).run Try.prog wx = .ok (.slice A' m (cap - at_)) wx := fun wx => by
          rw [run_slice_row bytesT A b.length cap at_ ((at_ : Int) + (m : Int)) .i64 .i64 (by omega) (by omega) (by omega) wx, hA']
          have e1 : ((at_ : Int) + (m : Int)).toNat - ((at_ : Nat) : Int).toNat = m := by omega
          rw [e1, Int.toNat_natCast]
        clear hA'
        generalize b.length = len at c0 hle hlen hcap i1 hs' hz
        go_enter Try.func75, Try.ntmps75
        go_wp2_with fail
        go_quiet (fail)
        go_wp2_with fail
        go_quiet (fail)
        go_wp2_with fail
        go_ret
        exact HF.out _ _ _ _ _ rfl (fun _ => HT.out) HA.out
  · have hfin : Took w g A cap b at_ err n (.returned (.slice none 0 0)) w := by
      have hok : rdOkB b.length at_ err n = false := by simp [rdOkB, he]
      have e2 : rdErr b.length at_ err n = err := by simp [rdErr, he]
      refine ⟨none, 0, by simp [rdGot, hok], by simp only [rdGot, hok]; exact Rd.nil, ?_, Upd.refl _ _⟩
      rw [e2]
      simp only [rdAt, hok]
      exact HR.out
    have HF := Lib.hid hfin
    clear hfin
    have e1 : (err != 0) = true := by simpa using he
    go_enter Try.func75, Try.ntmps75
    go_wp2_with fail
    go_ret
    exact HF.out
end Go.Proofs.Ytjnbgoiaocpcjaa
