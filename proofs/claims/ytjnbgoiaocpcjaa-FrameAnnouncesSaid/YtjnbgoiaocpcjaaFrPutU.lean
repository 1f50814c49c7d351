/- The bytes of what goes up and down (printed by genput.py). -/
import Derived.Test.YtjnbgoiaocpcjaaFrPkP
namespace Go.Proofs.Ytjnbgoiaocpcjaa
open Go.RowKit
set_option linter.unusedVariables false
set_option linter.unusedSimpArgs false
def PutP (ok : Bool) (l : List (BitVec 8)) (w : World) (e : Ending) (w' : World) : Prop := (if ok = true then ∃ v, e = .returned (.tuple #[v, .int .i64 0]) ∧ OwnB w' w.heap.size v l else e = .returned (.tuple #[.slice none 0 0, .int .i64 241])) ∧ Below w.heap.size w w'
def onionB (n : Int) : Bool := decide (n = 194) || decide (n = 242) || decide (n = 290)
def replyB (n : Int) : Bool := decide (n = 146) || decide (n = 162) || decide (n = 178)
set_option maxRecDepth 100000 in
set_option maxHeartbeats 2000000 in
theorem putup_any (c s : Int) (r : BitVec 64) (v : Value) (b : List (BitVec 8)) (w : World) (hb : Arg w v b) (hl : b.length ≤ 1048576) :
    Calls Try.prog 29 #[.agg #[.int .i64 c, .int .i64 s, .int .u64 (wb r), v]] w (PutP (endsB c s r && onionB b.length) (packB 2 c s r b) w) := by
  have HB := Lib.hid hb
  obtain ⟨A, cap, rfl, -, -⟩ := hb
  have mb := Blk.new w #[.int .i64 c, .int .i64 s, .int .u64 (wb r), .slice A b.length cap] 57
  have hn0 : Below w.heap.size w (w.alloc (.cells #[.int .i64 c, .int .i64 s, .int .u64 (wb r), .slice A b.length cap] 57)) := (Below.refl _ _).alloc (Nat.le_refl _) _
  have HP := Lib.hid (put_any3 2 c s r _ b _ (HB.out.below hn0) hl)
  rw [show wb (2 : BitVec 8) = 2 from rfl] at HP
  obtain ⟨E, hE⟩ : ∃ E, E = endsB c s r := ⟨_, rfl⟩
  obtain ⟨Z, hZ⟩ : ∃ Z, Z = onionB b.length := ⟨_, rfl⟩
  have HE := Lib.hid (fun wx => ends_any c s r wx)
  have HZ := Lib.hid (fun wx => sized_onion b.length wx)
  rw [← hE] at HE ⊢
  rw [← hZ]
  have HZ' : Hid (Z = (decide ((b.length : Int) = 194) || decide ((b.length : Int) = 242) || decide ((b.length : Int) = 290))) := hZ
  rw [← HZ'.out] at HZ
  clear hE hZ HZ'
  go_enter Try.func29, Try.ntmps29
  go_wp2_with fail
  refine (HE.out _).mono ?_
  rintro e w' ⟨rfl, rfl⟩
  cases E with
  | false =>
    go_wp2_with fail
    refine bodyPost_ret (results_tmp2 rfl _ _ _) rfl ?_
    exact ⟨rfl, hn0⟩
  | true =>
    go_wp2_with fail
    refine (HZ.out _).mono ?_
    rintro e w' ⟨rfl, rfl⟩
    cases Z with
    | false =>
      go_wp2_with fail
      refine bodyPost_ret (results_tmp2 rfl _ _ _) rfl ?_
      exact ⟨rfl, hn0⟩
    | true =>
      go_wp2_with fail
      refine HP.out.mono ?_
      rintro e w2 ⟨v2, rfl, h2, hn⟩
      have h3 : OwnB w2 _ v2 _ := h2
      go_wp2_with fail
      refine bodyPost_ret (results_tmp2 rfl _ _ _) rfl ?_
      exact ⟨⟨_, rfl, h3.base hn0.size⟩, hn0.trans (hn.mono hn0.size)⟩
set_option maxRecDepth 100000 in
set_option maxHeartbeats 2000000 in
theorem putdown_any (c s : Int) (r : BitVec 64) (v : Value) (b : List (BitVec 8)) (w : World) (hb : Arg w v b) (hl : b.length ≤ 1048576) :
    Calls Try.prog 30 #[.agg #[.int .i64 c, .int .i64 s, .int .u64 (wb r), v]] w (PutP (endsB c s r && replyB b.length) (packB 3 c s r b) w) := by
  have HB := Lib.hid hb
  obtain ⟨A, cap, rfl, -, -⟩ := hb
  have mb := Blk.new w #[.int .i64 c, .int .i64 s, .int .u64 (wb r), .slice A b.length cap] 59
  have hn0 : Below w.heap.size w (w.alloc (.cells #[.int .i64 c, .int .i64 s, .int .u64 (wb r), .slice A b.length cap] 59)) := (Below.refl _ _).alloc (Nat.le_refl _) _
  have HP := Lib.hid (put_any3 3 c s r _ b _ (HB.out.below hn0) hl)
  rw [show wb (3 : BitVec 8) = 3 from rfl] at HP
  obtain ⟨E, hE⟩ : ∃ E, E = endsB c s r := ⟨_, rfl⟩
  obtain ⟨Z, hZ⟩ : ∃ Z, Z = replyB b.length := ⟨_, rfl⟩
  have HE := Lib.hid (fun wx => ends_any c s r wx)
  have HZ := Lib.hid (fun wx => sized_reply b.length wx)
  rw [← hE] at HE ⊢
  rw [← hZ]
  have HZ' : Hid (Z = (decide ((b.length : Int) = 146) || decide ((b.length : Int) = 162) || decide ((b.length : Int) = 178))) := hZ
  rw [← HZ'.out] at HZ
  clear hE hZ HZ'
  go_enter Try.func30, Try.ntmps30
  go_wp2_with fail
  refine (HE.out _).mono ?_
  rintro e w' ⟨rfl, rfl⟩
  cases E with
  | false =>
    go_wp2_with fail
    refine bodyPost_ret (results_tmp2 rfl _ _ _) rfl ?_
    exact ⟨rfl, hn0⟩
  | true =>
    go_wp2_with fail
    refine (HZ.out _).mono ?_
    rintro e w' ⟨rfl, rfl⟩
    cases Z with
    | false =>
      go_wp2_with fail
      refine bodyPost_ret (results_tmp2 rfl _ _ _) rfl ?_
      exact ⟨rfl, hn0⟩
    | true =>
      go_wp2_with fail
      refine HP.out.mono ?_
      rintro e w2 ⟨v2, rfl, h2, hn⟩
      have h3 : OwnB w2 _ v2 _ := h2
      go_wp2_with fail
      refine bodyPost_ret (results_tmp2 rfl _ _ _) rfl ?_
      exact ⟨⟨_, rfl, h3.base hn0.size⟩, hn0.trans (hn.mono hn0.size)⟩
end Go.Proofs.Ytjnbgoiaocpcjaa
