/- The reference's reader: a call. -/
import Derived.Test.YtbpfdoemkogljaaWBack
import Derived.Handy
namespace Go.Proofs.Ytbpfdoemkogljaa
open Go.RowKit
set_option linter.unusedVariables false
set_option linter.unusedSimpArgs false
def nOf (kind N : Int) : Int := if kind = 0 then 2 else if kind = 1 then 4 else if kind = 2 then 8 else if kind = 4 then 32 else N
def toldNum (b : List (BitVec 8)) (at_ : Nat) (err kind N : Int) : BitVec 64 := if kind < 3 then get64 (rdGot b at_ err (nOf kind N)) else 0
def toldBytes (b : List (BitVec 8)) (at_ : Nat) (err kind N : Int) : List (BitVec 8) := if kind < 3 then [] else if kind = 4 then keyOf (rdGot b at_ err 32) else rdGot b at_ err N
/-- What a call hands back. -/
def DoGot (w : World) (v : Value) (b : List (BitVec 8)) (at_ : Nat) (err kind N : Int) (e : Ending) (w' : World) : Prop :=
  ∃ u, e = .returned (.tuple #[.agg #[v, .int .i64 (rdAt b.length at_ err (nOf kind N)), .int .i64 (rdErr b.length at_ err (nOf kind N))], .agg #[.int .u64 (wb (toldNum b at_ err kind N)), u]]) ∧ Arg w' u (toldBytes b at_ err kind N) ∧ Below w.heap.size w w'
theorem rd_no {len at_ : Nat} {err n : Int} (h : rdOkB len at_ err n = false) (b : List (BitVec 8)) (hb : b.length = len) : rdGot b at_ err n = [] ∧ rdAt len at_ err n = at_ := by
  subst hb
  exact ⟨by simp [rdGot, h], by simp [rdAt, h]⟩
theorem arg_of {w : World} {A : Option Addr} {cap n : Nat} {l : List (BitVec 8)} (hR : Rd w .u8 A l) (hn : l.length = n) (hc : n ≤ cap) : Arg w (.slice A n cap) l := ⟨A, cap, by rw [hn], by omega, hR⟩
set_option maxHeartbeats 4000000 in
theorem do_bad0 (b : List (BitVec 8)) (A : Option Addr) (cap at_ : Nat) (err : Int) (N : Int) (w : World) (herr : err ≠ 0) (hR : Rd w .u8 A b) (hc : b.length ≤ cap) (hle : at_ ≤ b.length) (hlen : b.length ≤ 140737488355328) :
    Calls Try.prog 17 #[.agg #[.slice A b.length cap, .int .i64 at_, .int .i64 err], .agg #[.int .i64 0, .int .i64 N]] w (DoGot w (.slice A b.length cap) b at_ err 0 N) := by
  have hno : nOf 0 N = 2 := by simp [nOf]
  have hok : rdOkB b.length at_ err 2 = false := by simp [rdOkB, herr]
  obtain ⟨g1, g2⟩ := rd_no hok b rfl
  have g3 : rdErr b.length at_ err 2 = err := by simp [rdErr, herr]
  have HF : Hid (∀ (w' : World) (u : Value), u = .slice none 0 0 → Below w.heap.size w w' → DoGot w (.slice A b.length cap) b at_ err 0 N (.returned (.tuple #[.agg #[.slice A b.length cap, .int .i64 at_, .int .i64 err], .agg #[.int .u64 0, u]])) w') := fun w' u hu hb => by
    refine ⟨u, ?_, ?_, hb⟩
    · rw [hno, g2, g3]
      have ht : toldNum b at_ err 0 N = 0 := by unfold toldNum; rw [if_pos (by omega), hno, g1]; rfl
      rw [ht]
      rfl
    · subst hu
      have ht : toldBytes b at_ err 0 N = [] := by unfold toldBytes; rw [if_pos (by omega)]
      rw [ht]
      exact Arg.nil _
  have e1 : (err != 0) = true := by simpa using herr
  clear hno hok g1 g2 g3 hle hlen hc hR
  generalize b.length = len at *
  go_enter Try.func17, Try.ntmps17
  go_wp2_with fail
  go_region
  go_wp2_with fail
  exact bodyPost_ret (v := .tuple #[.agg #[.slice A len cap, .int .i64 at_, .int .i64 err], .agg #[.int .u64 0, .slice none 0 0]]) (by simp [results, Try.results17, go_sem]; try rfl) rfl (HF.out _ _ rfl (by go_grown))
set_option maxHeartbeats 4000000 in
theorem do_short0 (b : List (BitVec 8)) (A : Option Addr) (cap at_ : Nat) (err : Int) (N : Int) (w : World) (herr : err = 0) (hs : 2 > (b.length : Int) - (at_ : Int)) (hR : Rd w .u8 A b) (hc : b.length ≤ cap) (hle : at_ ≤ b.length) (hlen : b.length ≤ 140737488355328) :
    Calls Try.prog 17 #[.agg #[.slice A b.length cap, .int .i64 at_, .int .i64 err], .agg #[.int .i64 0, .int .i64 N]] w (DoGot w (.slice A b.length cap) b at_ err 0 N) := by
  have hno : nOf 0 N = 2 := by simp [nOf]
  have hok : rdOkB b.length at_ err 2 = false := by simp [rdOkB, herr]; omega
  obtain ⟨g1, g2⟩ := rd_no hok b rfl
  have g3 : rdErr b.length at_ err 2 = 110 := by unfold rdErr; rw [if_pos herr, if_neg (by omega), if_pos hs]
  have HF : Hid (∀ (w' : World) (u : Value), u = .slice none 0 0 → Below w.heap.size w w' → DoGot w (.slice A b.length cap) b at_ err 0 N (.returned (.tuple #[.agg #[.slice A b.length cap, .int .i64 at_, .int .i64 110], .agg #[.int .u64 0, u]])) w') := fun w' u hu hb => by
    refine ⟨u, ?_, ?_, hb⟩
    · rw [hno, g2, g3]
      have ht : toldNum b at_ err 0 N = 0 := by unfold toldNum; rw [if_pos (by omega), hno, g1]; rfl
      rw [ht]
      rfl
    · subst hu
      have ht : toldBytes b at_ err 0 N = [] := by unfold toldBytes; rw [if_pos (by omega)]
      rw [ht]
      exact Arg.nil _
  subst herr
  have e1 : ((0 : Int) != 0) = false := rfl
  have hle' : (at_ : Int) ≤ (b.length : Int) := by omega
  have hlen' : (b.length : Int) ≤ 140737488355328 := by omega
  clear hno hok g1 g2 g3 hle hlen hc hR
  generalize b.length = len at *
  go_enter Try.func17, Try.ntmps17
  go_wp2_with fail
  go_region
  go_wp2_with fail
  exact bodyPost_ret (v := .tuple #[.agg #[.slice A len cap, .int .i64 at_, .int .i64 110], .agg #[.int .u64 0, .slice none 0 0]]) (by simp [results, Try.results17, go_sem]; try rfl) rfl (HF.out _ _ rfl (by go_grown))
set_option maxHeartbeats 4000000 in
theorem do_bad1 (b : List (BitVec 8)) (A : Option Addr) (cap at_ : Nat) (err : Int) (N : Int) (w : World) (herr : err ≠ 0) (hR : Rd w .u8 A b) (hc : b.length ≤ cap) (hle : at_ ≤ b.length) (hlen : b.length ≤ 140737488355328) :
    Calls Try.prog 17 #[.agg #[.slice A b.length cap, .int .i64 at_, .int .i64 err], .agg #[.int .i64 1, .int .i64 N]] w (DoGot w (.slice A b.length cap) b at_ err 1 N) := by
  have hno : nOf 1 N = 4 := by simp [nOf]
  have hok : rdOkB b.length at_ err 4 = false := by simp [rdOkB, herr]
  obtain ⟨g1, g2⟩ := rd_no hok b rfl
  have g3 : rdErr b.length at_ err 4 = err := by simp [rdErr, herr]
  have HF : Hid (∀ (w' : World) (u : Value), u = .slice none 0 0 → Below w.heap.size w w' → DoGot w (.slice A b.length cap) b at_ err 1 N (.returned (.tuple #[.agg #[.slice A b.length cap, .int .i64 at_, .int .i64 err], .agg #[.int .u64 0, u]])) w') := fun w' u hu hb => by
    refine ⟨u, ?_, ?_, hb⟩
    · rw [hno, g2, g3]
      have ht : toldNum b at_ err 1 N = 0 := by unfold toldNum; rw [if_pos (by omega), hno, g1]; rfl
      rw [ht]
      rfl
    · subst hu
      have ht : toldBytes b at_ err 1 N = [] := by unfold toldBytes; rw [if_pos (by omega)]
      rw [ht]
      exact Arg.nil _
  have e1 : (err != 0) = true := by simpa using herr
  clear hno hok g1 g2 g3 hle hlen hc hR
  generalize b.length = len at *
  go_enter Try.func17, Try.ntmps17
  go_wp2_with fail
  go_region
  go_wp2_with fail
  exact bodyPost_ret (v := .tuple #[.agg #[.slice A len cap, .int .i64 at_, .int .i64 err], .agg #[.int .u64 0, .slice none 0 0]]) (by simp [results, Try.results17, go_sem]; try rfl) rfl (HF.out _ _ rfl (by go_grown))
set_option maxHeartbeats 4000000 in
theorem do_short1 (b : List (BitVec 8)) (A : Option Addr) (cap at_ : Nat) (err : Int) (N : Int) (w : World) (herr : err = 0) (hs : 4 > (b.length : Int) - (at_ : Int)) (hR : Rd w .u8 A b) (hc : b.length ≤ cap) (hle : at_ ≤ b.length) (hlen : b.length ≤ 140737488355328) :
    Calls Try.prog 17 #[.agg #[.slice A b.length cap, .int .i64 at_, .int .i64 err], .agg #[.int .i64 1, .int .i64 N]] w (DoGot w (.slice A b.length cap) b at_ err 1 N) := by
  have hno : nOf 1 N = 4 := by simp [nOf]
  have hok : rdOkB b.length at_ err 4 = false := by simp [rdOkB, herr]; omega
  obtain ⟨g1, g2⟩ := rd_no hok b rfl
  have g3 : rdErr b.length at_ err 4 = 110 := by unfold rdErr; rw [if_pos herr, if_neg (by omega), if_pos hs]
  have HF : Hid (∀ (w' : World) (u : Value), u = .slice none 0 0 → Below w.heap.size w w' → DoGot w (.slice A b.length cap) b at_ err 1 N (.returned (.tuple #[.agg #[.slice A b.length cap, .int .i64 at_, .int .i64 110], .agg #[.int .u64 0, u]])) w') := fun w' u hu hb => by
    refine ⟨u, ?_, ?_, hb⟩
    · rw [hno, g2, g3]
      have ht : toldNum b at_ err 1 N = 0 := by unfold toldNum; rw [if_pos (by omega), hno, g1]; rfl
      rw [ht]
      rfl
    · subst hu
      have ht : toldBytes b at_ err 1 N = [] := by unfold toldBytes; rw [if_pos (by omega)]
      rw [ht]
      exact Arg.nil _
  subst herr
  have e1 : ((0 : Int) != 0) = false := rfl
  have hle' : (at_ : Int) ≤ (b.length : Int) := by omega
  have hlen' : (b.length : Int) ≤ 140737488355328 := by omega
  clear hno hok g1 g2 g3 hle hlen hc hR
  generalize b.length = len at *
  go_enter Try.func17, Try.ntmps17
  go_wp2_with fail
  go_region
  go_wp2_with fail
  exact bodyPost_ret (v := .tuple #[.agg #[.slice A len cap, .int .i64 at_, .int .i64 110], .agg #[.int .u64 0, .slice none 0 0]]) (by simp [results, Try.results17, go_sem]; try rfl) rfl (HF.out _ _ rfl (by go_grown))
set_option maxHeartbeats 4000000 in
theorem do_bad2 (b : List (BitVec 8)) (A : Option Addr) (cap at_ : Nat) (err : Int) (N : Int) (w : World) (herr : err ≠ 0) (hR : Rd w .u8 A b) (hc : b.length ≤ cap) (hle : at_ ≤ b.length) (hlen : b.length ≤ 140737488355328) :
    Calls Try.prog 17 #[.agg #[.slice A b.length cap, .int .i64 at_, .int .i64 err], .agg #[.int .i64 2, .int .i64 N]] w (DoGot w (.slice A b.length cap) b at_ err 2 N) := by
  have hno : nOf 2 N = 8 := by simp [nOf]
  have hok : rdOkB b.length at_ err 8 = false := by simp [rdOkB, herr]
  obtain ⟨g1, g2⟩ := rd_no hok b rfl
  have g3 : rdErr b.length at_ err 8 = err := by simp [rdErr, herr]
  have HF : Hid (∀ (w' : World) (u : Value), u = .slice none 0 0 → Below w.heap.size w w' → DoGot w (.slice A b.length cap) b at_ err 2 N (.returned (.tuple #[.agg #[.slice A b.length cap, .int .i64 at_, .int .i64 err], .agg #[.int .u64 0, u]])) w') := fun w' u hu hb => by
    refine ⟨u, ?_, ?_, hb⟩
    · rw [hno, g2, g3]
      have ht : toldNum b at_ err 2 N = 0 := by unfold toldNum; rw [if_pos (by omega), hno, g1]; rfl
      rw [ht]
      rfl
    · subst hu
      have ht : toldBytes b at_ err 2 N = [] := by unfold toldBytes; rw [if_pos (by omega)]
      rw [ht]
      exact Arg.nil _
  have e1 : (err != 0) = true := by simpa using herr
  clear hno hok g1 g2 g3 hle hlen hc hR
  generalize b.length = len at *
  go_enter Try.func17, Try.ntmps17
  go_wp2_with fail
  go_region
  go_wp2_with fail
  exact bodyPost_ret (v := .tuple #[.agg #[.slice A len cap, .int .i64 at_, .int .i64 err], .agg #[.int .u64 0, .slice none 0 0]]) (by simp [results, Try.results17, go_sem]; try rfl) rfl (HF.out _ _ rfl (by go_grown))
set_option maxHeartbeats 4000000 in
theorem do_short2 (b : List (BitVec 8)) (A : Option Addr) (cap at_ : Nat) (err : Int) (N : Int) (w : World) (herr : err = 0) (hs : 8 > (b.length : Int) - (at_ : Int)) (hR : Rd w .u8 A b) (hc : b.length ≤ cap) (hle : at_ ≤ b.length) (hlen : b.length ≤ 140737488355328) :
    Calls Try.prog 17 #[.agg #[.slice A b.length cap, .int .i64 at_, .int .i64 err], .agg #[.int .i64 2, .int .i64 N]] w (DoGot w (.slice A b.length cap) b at_ err 2 N) := by
  have hno : nOf 2 N = 8 := by simp [nOf]
  have hok : rdOkB b.length at_ err 8 = false := by simp [rdOkB, herr]; omega
  obtain ⟨g1, g2⟩ := rd_no hok b rfl
  have g3 : rdErr b.length at_ err 8 = 110 := by unfold rdErr; rw [if_pos herr, if_neg (by omega), if_pos hs]
  have HF : Hid (∀ (w' : World) (u : Value), u = .slice none 0 0 → Below w.heap.size w w' → DoGot w (.slice A b.length cap) b at_ err 2 N (.returned (.tuple #[.agg #[.slice A b.length cap, .int .i64 at_, .int .i64 110], .agg #[.int .u64 0, u]])) w') := fun w' u hu hb => by
    refine ⟨u, ?_, ?_, hb⟩
    · rw [hno, g2, g3]
      have ht : toldNum b at_ err 2 N = 0 := by unfold toldNum; rw [if_pos (by omega), hno, g1]; rfl
      rw [ht]
      rfl
    · subst hu
      have ht : toldBytes b at_ err 2 N = [] := by unfold toldBytes; rw [if_pos (by omega)]
      rw [ht]
      exact Arg.nil _
  subst herr
  have e1 : ((0 : Int) != 0) = false := rfl
  have hle' : (at_ : Int) ≤ (b.length : Int) := by omega
  have hlen' : (b.length : Int) ≤ 140737488355328 := by omega
  clear hno hok g1 g2 g3 hle hlen hc hR
  generalize b.length = len at *
  go_enter Try.func17, Try.ntmps17
  go_wp2_with fail
  go_region
  go_wp2_with fail
  exact bodyPost_ret (v := .tuple #[.agg #[.slice A len cap, .int .i64 at_, .int .i64 110], .agg #[.int .u64 0, .slice none 0 0]]) (by simp [results, Try.results17, go_sem]; try rfl) rfl (HF.out _ _ rfl (by go_grown))
set_option maxHeartbeats 4000000 in
theorem do_bad3 (b : List (BitVec 8)) (A : Option Addr) (cap at_ : Nat) (err : Int) (N : Int) (w : World) (herr : err ≠ 0) (hR : Rd w .u8 A b) (hc : b.length ≤ cap) (hle : at_ ≤ b.length) (hlen : b.length ≤ 140737488355328) :
    Calls Try.prog 17 #[.agg #[.slice A b.length cap, .int .i64 at_, .int .i64 err], .agg #[.int .i64 3, .int .i64 N]] w (DoGot w (.slice A b.length cap) b at_ err 3 N) := by
  have hno : nOf 3 N = N := by simp [nOf]
  have hok : rdOkB b.length at_ err N = false := by simp [rdOkB, herr]
  obtain ⟨g1, g2⟩ := rd_no hok b rfl
  have g3 : rdErr b.length at_ err N = err := by simp [rdErr, herr]
  have HF : Hid (∀ (w' : World) (u : Value), u = .slice none 0 0 → Below w.heap.size w w' → DoGot w (.slice A b.length cap) b at_ err 3 N (.returned (.tuple #[.agg #[.slice A b.length cap, .int .i64 at_, .int .i64 err], .agg #[.int .u64 0, u]])) w') := fun w' u hu hb => by
    refine ⟨u, ?_, ?_, hb⟩
    · rw [hno, g2, g3]
      have ht : toldNum b at_ err 3 N = 0 := by unfold toldNum; rw [if_neg (by omega)]
      rw [ht]
      rfl
    · subst hu
      have ht : toldBytes b at_ err 3 N = [] := by unfold toldBytes; rw [if_neg (by omega), if_neg (by omega)]; exact g1
      rw [ht]
      exact Arg.nil _
  have e1 : (err != 0) = true := by simpa using herr
  clear hno hok g1 g2 g3 hle hlen hc hR
  generalize b.length = len at *
  go_enter Try.func17, Try.ntmps17
  go_wp2_with fail
  go_region
  go_wp2_with fail
  exact bodyPost_ret (v := .tuple #[.agg #[.slice A len cap, .int .i64 at_, .int .i64 err], .agg #[.int .u64 0, .slice none 0 0]]) (by simp [results, Try.results17, go_sem]; try rfl) rfl (HF.out _ _ rfl (by go_grown))
set_option maxHeartbeats 4000000 in
theorem do_neg3 (b : List (BitVec 8)) (A : Option Addr) (cap at_ : Nat) (err : Int) (N : Int) (w : World) (herr : err = 0) (hn : N < 0) (hR : Rd w .u8 A b) (hc : b.length ≤ cap) (hle : at_ ≤ b.length) (hlen : b.length ≤ 140737488355328) :
    Calls Try.prog 17 #[.agg #[.slice A b.length cap, .int .i64 at_, .int .i64 err], .agg #[.int .i64 3, .int .i64 N]] w (DoGot w (.slice A b.length cap) b at_ err 3 N) := by
  have hno : nOf 3 N = N := by simp [nOf]
  have hok : rdOkB b.length at_ err N = false := by simp [rdOkB, herr]; omega
  obtain ⟨g1, g2⟩ := rd_no hok b rfl
  have g3 : rdErr b.length at_ err N = 2 := by simp [rdErr, herr, hn]
  have HF : Hid (∀ (w' : World) (u : Value), u = .slice none 0 0 → Below w.heap.size w w' → DoGot w (.slice A b.length cap) b at_ err 3 N (.returned (.tuple #[.agg #[.slice A b.length cap, .int .i64 at_, .int .i64 2], .agg #[.int .u64 0, u]])) w') := fun w' u hu hb => by
    refine ⟨u, ?_, ?_, hb⟩
    · rw [hno, g2, g3]
      have ht : toldNum b at_ err 3 N = 0 := by unfold toldNum; rw [if_neg (by omega)]
      rw [ht]
      rfl
    · subst hu
      have ht : toldBytes b at_ err 3 N = [] := by unfold toldBytes; rw [if_neg (by omega), if_neg (by omega)]; exact g1
      rw [ht]
      exact Arg.nil _
  subst herr
  have e1 : ((0 : Int) != 0) = false := rfl
  have hle' : (at_ : Int) ≤ (b.length : Int) := by omega
  have hlen' : (b.length : Int) ≤ 140737488355328 := by omega
  clear hno hok g1 g2 g3 hle hlen hc hR
  generalize b.length = len at *
  go_enter Try.func17, Try.ntmps17
  go_wp2_with fail
  go_region
  go_wp2_with fail
  exact bodyPost_ret (v := .tuple #[.agg #[.slice A len cap, .int .i64 at_, .int .i64 2], .agg #[.int .u64 0, .slice none 0 0]]) (by simp [results, Try.results17, go_sem]; try rfl) rfl (HF.out _ _ rfl (by go_grown))
set_option maxHeartbeats 4000000 in
theorem do_short3 (b : List (BitVec 8)) (A : Option Addr) (cap at_ : Nat) (err : Int) (N : Int) (w : World) (herr : err = 0) (hn : 0 ≤ N) (hs : N > (b.length : Int) - (at_ : Int)) (hR : Rd w .u8 A b) (hc : b.length ≤ cap) (hle : at_ ≤ b.length) (hlen : b.length ≤ 140737488355328) :
    Calls Try.prog 17 #[.agg #[.slice A b.length cap, .int .i64 at_, .int .i64 err], .agg #[.int .i64 3, .int .i64 N]] w (DoGot w (.slice A b.length cap) b at_ err 3 N) := by
  have hno : nOf 3 N = N := by simp [nOf]
  have hok : rdOkB b.length at_ err N = false := by simp [rdOkB, herr]; omega
  obtain ⟨g1, g2⟩ := rd_no hok b rfl
  have g3 : rdErr b.length at_ err N = 110 := by unfold rdErr; rw [if_pos herr, if_neg (by omega), if_pos hs]
  have HF : Hid (∀ (w' : World) (u : Value), u = .slice none 0 0 → Below w.heap.size w w' → DoGot w (.slice A b.length cap) b at_ err 3 N (.returned (.tuple #[.agg #[.slice A b.length cap, .int .i64 at_, .int .i64 110], .agg #[.int .u64 0, u]])) w') := fun w' u hu hb => by
    refine ⟨u, ?_, ?_, hb⟩
    · rw [hno, g2, g3]
      have ht : toldNum b at_ err 3 N = 0 := by unfold toldNum; rw [if_neg (by omega)]
      rw [ht]
      rfl
    · subst hu
      have ht : toldBytes b at_ err 3 N = [] := by unfold toldBytes; rw [if_neg (by omega), if_neg (by omega)]; exact g1
      rw [ht]
      exact Arg.nil _
  subst herr
  have e1 : ((0 : Int) != 0) = false := rfl
  have hle' : (at_ : Int) ≤ (b.length : Int) := by omega
  have hlen' : (b.length : Int) ≤ 140737488355328 := by omega
  clear hno hok g1 g2 g3 hle hlen hc hR
  generalize b.length = len at *
  go_enter Try.func17, Try.ntmps17
  go_wp2_with fail
  go_region
  go_wp2_with fail
  exact bodyPost_ret (v := .tuple #[.agg #[.slice A len cap, .int .i64 at_, .int .i64 110], .agg #[.int .u64 0, .slice none 0 0]]) (by simp [results, Try.results17, go_sem]; try rfl) rfl (HF.out _ _ rfl (by go_grown))
set_option maxHeartbeats 4000000 in
theorem do_bad4 (b : List (BitVec 8)) (A : Option Addr) (cap at_ : Nat) (err : Int) (N : Int) (w : World) (herr : err ≠ 0) (hR : Rd w .u8 A b) (hc : b.length ≤ cap) (hle : at_ ≤ b.length) (hlen : b.length ≤ 140737488355328) :
    Calls Try.prog 17 #[.agg #[.slice A b.length cap, .int .i64 at_, .int .i64 err], .agg #[.int .i64 4, .int .i64 N]] w (DoGot w (.slice A b.length cap) b at_ err 4 N) := by
  obtain ⟨Z, hZ⟩ : ∃ Z, Z = List.replicate 32 (0 : BitVec 8) := ⟨_, rfl⟩
  have HZ := Lib.hid hZ
  have HZL : Hid (Z.length = 32) := by rw [hZ]; exact List.length_replicate
  clear hZ
  have hno : nOf 4 N = 32 := by simp [nOf]
  have hok : rdOkB b.length at_ err 32 = false := by simp [rdOkB, herr]
  obtain ⟨g1, g2⟩ := rd_no hok b rfl
  have g3 : rdErr b.length at_ err 32 = err := by simp [rdErr, herr]
  have HF : Hid (∀ (w' : World) (u : Value), Arg w' u Z → Below w.heap.size w w' → DoGot w (.slice A b.length cap) b at_ err 4 N (.returned (.tuple #[.agg #[.slice A b.length cap, .int .i64 at_, .int .i64 err], .agg #[.int .u64 0, u]])) w') := fun w' u hu hb => by
    refine ⟨u, ?_, ?_, hb⟩
    · rw [hno, g2, g3]
      have ht : toldNum b at_ err 4 N = 0 := by unfold toldNum; rw [if_neg (by omega)]
      rw [ht]
      rfl
    · skip
      have ht : toldBytes b at_ err 4 N = Z := by unfold toldBytes; rw [if_neg (by omega), if_pos rfl, g1, keyOf_nil, HZ.out]
      rw [ht]
      exact hu
  have e1 : (err != 0) = true := by simpa using herr
  have hmk : ∀ wx, (Instr.makeSlice 22 (.int .i64 32) (.int .i64 32)).run Try.prog wx = .ok (.slice (some ⟨wx.heap.size, 0, none⟩) 32 32) (wx.alloc (.cells (encs .u8 Z) 5)) := fun wx => by
    rw [HZ.out]
    exact run_make_words (P := Try.prog) 22 5 .u8 8 1 Try.underlying22 bytesT.hi 32 (by omega) (by omega) wx
  clear hno hok g1 g2 g3 hle hlen hc hR
  generalize b.length = len at *
  go_enter Try.func17, Try.ntmps17
  go_wp2_with fail
  go_region
  go_wp2_with fail
  exact bodyPost_ret (v := .tuple #[.agg #[.slice A len cap, .int .i64 at_, .int .i64 err], .agg #[.int .u64 0, .slice (some ⟨w.heap.size + 1 + 1 + 1 + 1 + 1, 0, none⟩) 32 32]]) (by simp [results, Try.results17, go_sem]; try rfl) rfl (HF.out _ _ (arg_of (Blk.rd (Blk.new_at _ _ _ _ (by simp))) HZL.out (Nat.le_refl _)) (by go_grown))
set_option maxHeartbeats 4000000 in
theorem do_short4 (b : List (BitVec 8)) (A : Option Addr) (cap at_ : Nat) (err : Int) (N : Int) (w : World) (herr : err = 0) (hs : 32 > (b.length : Int) - (at_ : Int)) (hR : Rd w .u8 A b) (hc : b.length ≤ cap) (hle : at_ ≤ b.length) (hlen : b.length ≤ 140737488355328) :
    Calls Try.prog 17 #[.agg #[.slice A b.length cap, .int .i64 at_, .int .i64 err], .agg #[.int .i64 4, .int .i64 N]] w (DoGot w (.slice A b.length cap) b at_ err 4 N) := by
  obtain ⟨Z, hZ⟩ : ∃ Z, Z = List.replicate 32 (0 : BitVec 8) := ⟨_, rfl⟩
  have HZ := Lib.hid hZ
  have HZL : Hid (Z.length = 32) := by rw [hZ]; exact List.length_replicate
  clear hZ
  have hno : nOf 4 N = 32 := by simp [nOf]
  have hok : rdOkB b.length at_ err 32 = false := by simp [rdOkB, herr]; omega
  obtain ⟨g1, g2⟩ := rd_no hok b rfl
  have g3 : rdErr b.length at_ err 32 = 110 := by unfold rdErr; rw [if_pos herr, if_neg (by omega), if_pos hs]
  have HF : Hid (∀ (w' : World) (u : Value), Arg w' u Z → Below w.heap.size w w' → DoGot w (.slice A b.length cap) b at_ err 4 N (.returned (.tuple #[.agg #[.slice A b.length cap, .int .i64 at_, .int .i64 110], .agg #[.int .u64 0, u]])) w') := fun w' u hu hb => by
    refine ⟨u, ?_, ?_, hb⟩
    · rw [hno, g2, g3]
      have ht : toldNum b at_ err 4 N = 0 := by unfold toldNum; rw [if_neg (by omega)]
      rw [ht]
      rfl
    · skip
      have ht : toldBytes b at_ err 4 N = Z := by unfold toldBytes; rw [if_neg (by omega), if_pos rfl, g1, keyOf_nil, HZ.out]
      rw [ht]
      exact hu
  subst herr
  have e1 : ((0 : Int) != 0) = false := rfl
  have hle' : (at_ : Int) ≤ (b.length : Int) := by omega
  have hlen' : (b.length : Int) ≤ 140737488355328 := by omega
  have hmk : ∀ wx, (Instr.makeSlice 22 (.int .i64 32) (.int .i64 32)).run Try.prog wx = .ok (.slice (some ⟨wx.heap.size, 0, none⟩) 32 32) (wx.alloc (.cells (encs .u8 Z) 5)) := fun wx => by
    rw [HZ.out]
    exact run_make_words (P := Try.prog) 22 5 .u8 8 1 Try.underlying22 bytesT.hi 32 (by omega) (by omega) wx
  clear hno hok g1 g2 g3 hle hlen hc hR
  generalize b.length = len at *
  go_enter Try.func17, Try.ntmps17
  go_wp2_with fail
  go_region
  go_wp2_with fail
  exact bodyPost_ret (v := .tuple #[.agg #[.slice A len cap, .int .i64 at_, .int .i64 110], .agg #[.int .u64 0, .slice (some ⟨w.heap.size + 1 + 1 + 1 + 1 + 1, 0, none⟩) 32 32]]) (by simp [results, Try.results17, go_sem]; try rfl) rfl (HF.out _ _ (arg_of (Blk.rd (Blk.new_at _ _ _ _ (by simp))) HZL.out (Nat.le_refl _)) (by go_grown))
set_option maxHeartbeats 4000000 in
theorem do_ok0 (b : List (BitVec 8)) (A : Option Addr) (cap at_ : Nat) (err : Int) (N : Int) (w : World) (herr : err = 0) (hs : 2 ≤ (b.length : Int) - (at_ : Int)) (hR : Rd w .u8 A b) (hc : b.length ≤ cap) (hle : at_ ≤ b.length) (hlen : b.length ≤ 140737488355328) :
    Calls Try.prog 17 #[.agg #[.slice A b.length cap, .int .i64 at_, .int .i64 err], .agg #[.int .i64 0, .int .i64 N]] w (DoGot w (.slice A b.length cap) b at_ err 0 N) := by
  subst herr
  have hno : nOf 0 N = 2 := by simp [nOf]
  have hok : rdOkB b.length at_ 0 2 = true := by simp [rdOkB]; omega
  have g1 : rdGot b at_ 0 2 = (b.drop at_).take 2 := by unfold rdGot; rw [if_pos hok]; rfl
  have g2 : rdAt b.length at_ 0 2 = at_ + 2 := by unfold rdAt; rw [if_pos hok]; rfl
  have g3 : rdErr b.length at_ 0 2 = 0 := rdErr_ok hok
  have g4 : ((b.drop at_).take 2).length = 2 := by rw [List.length_take, List.length_drop]; omega
  obtain ⟨A', hA'⟩ : ∃ A', A' = cutA A at_ cap 1 := ⟨_, rfl⟩
  have HT : Hid (Rd w .u8 A' ((b.drop at_).take 2)) := by rw [hA']; exact rd_cut hR at_ 2 cap hc
  have HF : Hid (∀ (w' : World), Below w.heap.size w w' → DoGot w (.slice A b.length cap) b at_ 0 0 N (.returned (.tuple #[.agg #[.slice A b.length cap, .int .i64 ((at_ : Int) + 2), .int .i64 0], .agg #[.int .u64 (wb (get64 ((b.drop at_).take 2))), (.slice none 0 0)]])) w') := fun w' hb => by
    refine ⟨(.slice none 0 0), ?_, ?_, hb⟩
    · rw [hno, g2, g3]
      have ht : toldNum b at_ 0 0 N = get64 ((b.drop at_).take 2) := by unfold toldNum; rw [if_pos (by omega), hno, g1]
      rw [ht]
      rfl
    · have ht : toldBytes b at_ 0 0 N = [] := by unfold toldBytes; rw [if_pos (by omega)]
      rw [ht]
      exact Arg.nil _
  have hz : ∀ wx, (Instr.slice 22 (.slice A b.length cap) (some (.int .i64 at_)) (some (.int .i64 ((at_ : Int) + 2))) none).run Try.prog wx = .ok (.slice A' 2 (cap - at_)) wx := fun wx => by
    rw [run_slice_row bytesT A b.length cap at_ ((at_ : Int) + 2) .i64 .i64 (by omega) (by omega) (by omega) wx, hA']
    have e1 : ((at_ : Int) + 2).toNat - ((at_ : Nat) : Int).toNat = 2 := by omega
    rw [e1, Int.toNat_natCast]
  have e1 : ((0 : Int) != 0) = false := rfl
  have hle' : (at_ : Int) ≤ (b.length : Int) := by omega
  have hlen' : (b.length : Int) ≤ 140737488355328 := by omega
  have hcap' : (b.length : Int) ≤ (cap : Int) := by omega
  have G4 := Lib.hid g4
  have hmc : Hid (2 ≤ cap - at_) := by show _ ≤ _; omega
  clear hno hok g1 g2 g3 g4 hle hlen hc hR hA'
  generalize b.length = len at *
  go_enter Try.func17, Try.ntmps17
  go_wp2_with fail
  refine mix_start (fun w' => Blk w' w.heap.size #[.slice A len cap, .int .i64 ((at_ : Int) + 2), .int .i64 0] 39) (List.range 6) [2, 4, 5] [0] [4, 5] (by kernel_rfl) (by kernel_rfl) (fun d _ _ _ _ h => by cases d <;> exact h) (Blk.drew (by first | exact ((((Blk.new _ _ _).alloc _).alloc _).alloc _).alloc _ | exact (((((Blk.new _ _ _).alloc _).alloc _).alloc _).alloc _).set 1 _)) ?_
  refine mix_load_row rfl rfl rfl rfl 39 _ rfl w.heap.size rfl _ 39 (0, 0) _ (fun w' h => h) Try.underlying39 rfl (by kernel_rfl) ?_
  repeat (refine mix_pure rfl rfl (fun K hK => ?_); go_simp; refine hK _ ?_; clear hK K)
  refine mix_eff rfl rfl (fun K hK => ?_)
  go_simp
  refine (rhigh_v (arg_of (HT.out.below (by go_grown)) G4.out hmc.out) (by rw [G4.out]; omega)).mono ?_
  rintro e _ ⟨rfl, rfl⟩
  refine hK _ _ (fun _ h => h) ?_
  clear hK K
  generalize get64 ((b.drop at_).take 2) = nm at *
  repeat (refine mix_pure rfl rfl (fun K hK => ?_); go_simp; refine hK _ ?_; clear hK K)
  refine mix_ds rfl rfl rfl (fun K hK => ?_)
  go_simp
  refine hK _ _ ?_
  clear hK K
  repeat (refine mix_pure rfl rfl (fun K hK => ?_); go_simp; refine hK _ ?_; clear hK K)
  refine mix_ds rfl rfl rfl (fun K hK => ?_)
  go_simp
  refine hK _ _ ?_
  clear hK K
  refine mix_nil ?_
  go_wp2_with fail
  exact bodyPost_ret (v := .tuple #[.agg #[.slice A len cap, .int .i64 ((at_ : Int) + 2), .int .i64 0], .agg #[.int .u64 (wb nm), .slice none 0 0]]) (by simp [results, Try.results17, go_sem]; try rfl) rfl (HF.out _ (by go_grown))
set_option maxHeartbeats 4000000 in
theorem do_ok1 (b : List (BitVec 8)) (A : Option Addr) (cap at_ : Nat) (err : Int) (N : Int) (w : World) (herr : err = 0) (hs : 4 ≤ (b.length : Int) - (at_ : Int)) (hR : Rd w .u8 A b) (hc : b.length ≤ cap) (hle : at_ ≤ b.length) (hlen : b.length ≤ 140737488355328) :
    Calls Try.prog 17 #[.agg #[.slice A b.length cap, .int .i64 at_, .int .i64 err], .agg #[.int .i64 1, .int .i64 N]] w (DoGot w (.slice A b.length cap) b at_ err 1 N) := by
  subst herr
  have hno : nOf 1 N = 4 := by simp [nOf]
  have hok : rdOkB b.length at_ 0 4 = true := by simp [rdOkB]; omega
  have g1 : rdGot b at_ 0 4 = (b.drop at_).take 4 := by unfold rdGot; rw [if_pos hok]; rfl
  have g2 : rdAt b.length at_ 0 4 = at_ + 4 := by unfold rdAt; rw [if_pos hok]; rfl
  have g3 : rdErr b.length at_ 0 4 = 0 := rdErr_ok hok
  have g4 : ((b.drop at_).take 4).length = 4 := by rw [List.length_take, List.length_drop]; omega
  obtain ⟨A', hA'⟩ : ∃ A', A' = cutA A at_ cap 1 := ⟨_, rfl⟩
  have HT : Hid (Rd w .u8 A' ((b.drop at_).take 4)) := by rw [hA']; exact rd_cut hR at_ 4 cap hc
  have HF : Hid (∀ (w' : World), Below w.heap.size w w' → DoGot w (.slice A b.length cap) b at_ 0 1 N (.returned (.tuple #[.agg #[.slice A b.length cap, .int .i64 ((at_ : Int) + 4), .int .i64 0], .agg #[.int .u64 (wb (get64 ((b.drop at_).take 4))), (.slice none 0 0)]])) w') := fun w' hb => by
    refine ⟨(.slice none 0 0), ?_, ?_, hb⟩
    · rw [hno, g2, g3]
      have ht : toldNum b at_ 0 1 N = get64 ((b.drop at_).take 4) := by unfold toldNum; rw [if_pos (by omega), hno, g1]
      rw [ht]
      rfl
    · have ht : toldBytes b at_ 0 1 N = [] := by unfold toldBytes; rw [if_pos (by omega)]
      rw [ht]
      exact Arg.nil _
  have hz : ∀ wx, (Instr.slice 22 (.slice A b.length cap) (some (.int .i64 at_)) (some (.int .i64 ((at_ : Int) + 4))) none).run Try.prog wx = .ok (.slice A' 4 (cap - at_)) wx := fun wx => by
    rw [run_slice_row bytesT A b.length cap at_ ((at_ : Int) + 4) .i64 .i64 (by omega) (by omega) (by omega) wx, hA']
    have e1 : ((at_ : Int) + 4).toNat - ((at_ : Nat) : Int).toNat = 4 := by omega
    rw [e1, Int.toNat_natCast]
  have e1 : ((0 : Int) != 0) = false := rfl
  have hle' : (at_ : Int) ≤ (b.length : Int) := by omega
  have hlen' : (b.length : Int) ≤ 140737488355328 := by omega
  have hcap' : (b.length : Int) ≤ (cap : Int) := by omega
  have G4 := Lib.hid g4
  have hmc : Hid (4 ≤ cap - at_) := by show _ ≤ _; omega
  clear hno hok g1 g2 g3 g4 hle hlen hc hR hA'
  generalize b.length = len at *
  go_enter Try.func17, Try.ntmps17
  go_wp2_with fail
  refine mix_start (fun w' => Blk w' w.heap.size #[.slice A len cap, .int .i64 ((at_ : Int) + 4), .int .i64 0] 39) (List.range 6) [2, 4, 5] [0] [4, 5] (by kernel_rfl) (by kernel_rfl) (fun d _ _ _ _ h => by cases d <;> exact h) (Blk.drew (by first | exact ((((Blk.new _ _ _).alloc _).alloc _).alloc _).alloc _ | exact (((((Blk.new _ _ _).alloc _).alloc _).alloc _).alloc _).set 1 _)) ?_
  refine mix_load_row rfl rfl rfl rfl 39 _ rfl w.heap.size rfl _ 39 (0, 0) _ (fun w' h => h) Try.underlying39 rfl (by kernel_rfl) ?_
  repeat (refine mix_pure rfl rfl (fun K hK => ?_); go_simp; refine hK _ ?_; clear hK K)
  refine mix_eff rfl rfl (fun K hK => ?_)
  go_simp
  refine (rhigh_v (arg_of (HT.out.below (by go_grown)) G4.out hmc.out) (by rw [G4.out]; omega)).mono ?_
  rintro e _ ⟨rfl, rfl⟩
  refine hK _ _ (fun _ h => h) ?_
  clear hK K
  generalize get64 ((b.drop at_).take 4) = nm at *
  repeat (refine mix_pure rfl rfl (fun K hK => ?_); go_simp; refine hK _ ?_; clear hK K)
  refine mix_ds rfl rfl rfl (fun K hK => ?_)
  go_simp
  refine hK _ _ ?_
  clear hK K
  repeat (refine mix_pure rfl rfl (fun K hK => ?_); go_simp; refine hK _ ?_; clear hK K)
  refine mix_ds rfl rfl rfl (fun K hK => ?_)
  go_simp
  refine hK _ _ ?_
  clear hK K
  refine mix_nil ?_
  go_wp2_with fail
  exact bodyPost_ret (v := .tuple #[.agg #[.slice A len cap, .int .i64 ((at_ : Int) + 4), .int .i64 0], .agg #[.int .u64 (wb nm), .slice none 0 0]]) (by simp [results, Try.results17, go_sem]; try rfl) rfl (HF.out _ (by go_grown))
set_option maxHeartbeats 4000000 in
theorem do_ok2 (b : List (BitVec 8)) (A : Option Addr) (cap at_ : Nat) (err : Int) (N : Int) (w : World) (herr : err = 0) (hs : 8 ≤ (b.length : Int) - (at_ : Int)) (hR : Rd w .u8 A b) (hc : b.length ≤ cap) (hle : at_ ≤ b.length) (hlen : b.length ≤ 140737488355328) :
    Calls Try.prog 17 #[.agg #[.slice A b.length cap, .int .i64 at_, .int .i64 err], .agg #[.int .i64 2, .int .i64 N]] w (DoGot w (.slice A b.length cap) b at_ err 2 N) := by
  subst herr
  have hno : nOf 2 N = 8 := by simp [nOf]
  have hok : rdOkB b.length at_ 0 8 = true := by simp [rdOkB]; omega
  have g1 : rdGot b at_ 0 8 = (b.drop at_).take 8 := by unfold rdGot; rw [if_pos hok]; rfl
  have g2 : rdAt b.length at_ 0 8 = at_ + 8 := by unfold rdAt; rw [if_pos hok]; rfl
  have g3 : rdErr b.length at_ 0 8 = 0 := rdErr_ok hok
  have g4 : ((b.drop at_).take 8).length = 8 := by rw [List.length_take, List.length_drop]; omega
  obtain ⟨A', hA'⟩ : ∃ A', A' = cutA A at_ cap 1 := ⟨_, rfl⟩
  have HT : Hid (Rd w .u8 A' ((b.drop at_).take 8)) := by rw [hA']; exact rd_cut hR at_ 8 cap hc
  have HF : Hid (∀ (w' : World), Below w.heap.size w w' → DoGot w (.slice A b.length cap) b at_ 0 2 N (.returned (.tuple #[.agg #[.slice A b.length cap, .int .i64 ((at_ : Int) + 8), .int .i64 0], .agg #[.int .u64 (wb (get64 ((b.drop at_).take 8))), (.slice none 0 0)]])) w') := fun w' hb => by
    refine ⟨(.slice none 0 0), ?_, ?_, hb⟩
    · rw [hno, g2, g3]
      have ht : toldNum b at_ 0 2 N = get64 ((b.drop at_).take 8) := by unfold toldNum; rw [if_pos (by omega), hno, g1]
      rw [ht]
      rfl
    · have ht : toldBytes b at_ 0 2 N = [] := by unfold toldBytes; rw [if_pos (by omega)]
      rw [ht]
      exact Arg.nil _
  have hz : ∀ wx, (Instr.slice 22 (.slice A b.length cap) (some (.int .i64 at_)) (some (.int .i64 ((at_ : Int) + 8))) none).run Try.prog wx = .ok (.slice A' 8 (cap - at_)) wx := fun wx => by
    rw [run_slice_row bytesT A b.length cap at_ ((at_ : Int) + 8) .i64 .i64 (by omega) (by omega) (by omega) wx, hA']
    have e1 : ((at_ : Int) + 8).toNat - ((at_ : Nat) : Int).toNat = 8 := by omega
    rw [e1, Int.toNat_natCast]
  have e1 : ((0 : Int) != 0) = false := rfl
  have hle' : (at_ : Int) ≤ (b.length : Int) := by omega
  have hlen' : (b.length : Int) ≤ 140737488355328 := by omega
  have hcap' : (b.length : Int) ≤ (cap : Int) := by omega
  have G4 := Lib.hid g4
  have hmc : Hid (8 ≤ cap - at_) := by show _ ≤ _; omega
  clear hno hok g1 g2 g3 g4 hle hlen hc hR hA'
  generalize b.length = len at *
  go_enter Try.func17, Try.ntmps17
  go_wp2_with fail
  refine mix_start (fun w' => Blk w' w.heap.size #[.slice A len cap, .int .i64 ((at_ : Int) + 8), .int .i64 0] 39) (List.range 6) [2, 4, 5] [0] [4, 5] (by kernel_rfl) (by kernel_rfl) (fun d _ _ _ _ h => by cases d <;> exact h) (Blk.drew (by first | exact ((((Blk.new _ _ _).alloc _).alloc _).alloc _).alloc _ | exact (((((Blk.new _ _ _).alloc _).alloc _).alloc _).alloc _).set 1 _)) ?_
  refine mix_load_row rfl rfl rfl rfl 39 _ rfl w.heap.size rfl _ 39 (0, 0) _ (fun w' h => h) Try.underlying39 rfl (by kernel_rfl) ?_
  repeat (refine mix_pure rfl rfl (fun K hK => ?_); go_simp; refine hK _ ?_; clear hK K)
  refine mix_eff rfl rfl (fun K hK => ?_)
  go_simp
  refine (rhigh_v (arg_of (HT.out.below (by go_grown)) G4.out hmc.out) (by rw [G4.out]; omega)).mono ?_
  rintro e _ ⟨rfl, rfl⟩
  refine hK _ _ (fun _ h => h) ?_
  clear hK K
  generalize get64 ((b.drop at_).take 8) = nm at *
  repeat (refine mix_pure rfl rfl (fun K hK => ?_); go_simp; refine hK _ ?_; clear hK K)
  refine mix_ds rfl rfl rfl (fun K hK => ?_)
  go_simp
  refine hK _ _ ?_
  clear hK K
  repeat (refine mix_pure rfl rfl (fun K hK => ?_); go_simp; refine hK _ ?_; clear hK K)
  refine mix_ds rfl rfl rfl (fun K hK => ?_)
  go_simp
  refine hK _ _ ?_
  clear hK K
  refine mix_nil ?_
  go_wp2_with fail
  exact bodyPost_ret (v := .tuple #[.agg #[.slice A len cap, .int .i64 ((at_ : Int) + 8), .int .i64 0], .agg #[.int .u64 (wb nm), .slice none 0 0]]) (by simp [results, Try.results17, go_sem]; try rfl) rfl (HF.out _ (by go_grown))
set_option maxHeartbeats 4000000 in
theorem do_ok3 (b : List (BitVec 8)) (A : Option Addr) (cap at_ : Nat) (err : Int) (N : Int) (w : World) (herr : err = 0) (hn : 0 ≤ N) (hs : N ≤ (b.length : Int) - (at_ : Int)) (hR : Rd w .u8 A b) (hc : b.length ≤ cap) (hle : at_ ≤ b.length) (hlen : b.length ≤ 140737488355328) :
    Calls Try.prog 17 #[.agg #[.slice A b.length cap, .int .i64 at_, .int .i64 err], .agg #[.int .i64 3, .int .i64 N]] w (DoGot w (.slice A b.length cap) b at_ err 3 N) := by
  subst herr
  obtain ⟨m, rfl⟩ := Int.eq_ofNat_of_zero_le hn
  have hno : nOf 3 m = (m : Int) := by simp [nOf]
  have hok : rdOkB b.length at_ 0 (m : Int) = true := by simp [rdOkB]; omega
  have g1 : rdGot b at_ 0 (m : Int) = (b.drop at_).take m := by unfold rdGot; rw [if_pos hok]; rfl
  have g2 : rdAt b.length at_ 0 (m : Int) = at_ + m := by unfold rdAt; rw [if_pos hok]; rfl
  have g3 : rdErr b.length at_ 0 (m : Int) = 0 := rdErr_ok hok
  have g4 : ((b.drop at_).take m).length = m := by rw [List.length_take, List.length_drop]; omega
  obtain ⟨A', hA'⟩ : ∃ A', A' = cutA A at_ cap 1 := ⟨_, rfl⟩
  have HT : Hid (Rd w .u8 A' ((b.drop at_).take m)) := by rw [hA']; exact rd_cut hR at_ m cap hc
  have HF : Hid (∀ (w' : World), Below w.heap.size w w' → DoGot w (.slice A b.length cap) b at_ 0 3 m (.returned (.tuple #[.agg #[.slice A b.length cap, .int .i64 ((at_ : Int) + (m : Int)), .int .i64 0], .agg #[.int .u64 (0), (.slice A' m (cap - at_))]])) w') := fun w' hb => by
    refine ⟨(.slice A' m (cap - at_)), ?_, ?_, hb⟩
    · rw [hno, g2, g3]
      have ht : toldNum b at_ 0 3 m = 0 := by unfold toldNum; rw [if_neg (by omega)]
      rw [ht]
      rfl
    · have ht : toldBytes b at_ 0 3 m = (b.drop at_).take m := by unfold toldBytes; rw [if_neg (by omega), if_neg (by omega)]; exact g1
      rw [ht]
      exact arg_of (HT.out.below hb) g4 (by omega)
  have hz : ∀ wx, (Instr.slice 22 (.slice A b.length cap) (some (.int .i64 at_)) (some (.int .i64 ((at_ : Int) + (m : Int)))) none).run Try.prog wx = .ok (.slice A' m (cap - at_)) wx := fun wx => by
    rw [run_slice_row bytesT A b.length cap at_ ((at_ : Int) + (m : Int)) .i64 .i64 (by omega) (by omega) (by omega) wx, hA']
    have e1 : ((at_ : Int) + (m : Int)).toNat - ((at_ : Nat) : Int).toNat = m := by omega
    rw [e1, Int.toNat_natCast]
  have e1 : ((0 : Int) != 0) = false := rfl
  have hle' : (at_ : Int) ≤ (b.length : Int) := by omega
  have hlen' : (b.length : Int) ≤ 140737488355328 := by omega
  have hcap' : (b.length : Int) ≤ (cap : Int) := by omega
  have G4 := Lib.hid g4
  have hmc : Hid (m ≤ cap - at_) := by show _ ≤ _; omega
  clear hno hok g1 g2 g3 g4 hle hlen hc hR hA'
  generalize b.length = len at *
  have hm0 : ¬ ((m : Int) < 0) := by omega
  go_enter Try.func17, Try.ntmps17
  go_wp2_with fail
  exact bodyPost_ret (v := .tuple #[.agg #[.slice A len cap, .int .i64 ((at_ : Int) + (m : Int)), .int .i64 0], .agg #[.int .u64 0, .slice A' m (cap - at_)]]) (by simp [results, Try.results17, go_sem]; try rfl) rfl (HF.out _ (by go_grown))
set_option maxHeartbeats 4000000 in
theorem do_ok4 (b : List (BitVec 8)) (A : Option Addr) (cap at_ : Nat) (err : Int) (N : Int) (w : World) (herr : err = 0) (hs : 32 ≤ (b.length : Int) - (at_ : Int)) (hR : Rd w .u8 A b) (hc : b.length ≤ cap) (hle : at_ ≤ b.length) (hlen : b.length ≤ 140737488355328) :
    Calls Try.prog 17 #[.agg #[.slice A b.length cap, .int .i64 at_, .int .i64 err], .agg #[.int .i64 4, .int .i64 N]] w (DoGot w (.slice A b.length cap) b at_ err 4 N) := by
  subst herr
  have hno : nOf 4 N = 32 := by simp [nOf]
  have hok : rdOkB b.length at_ 0 32 = true := by simp [rdOkB]; omega
  have g1 : rdGot b at_ 0 32 = (b.drop at_).take 32 := by unfold rdGot; rw [if_pos hok]; rfl
  have g2 : rdAt b.length at_ 0 32 = at_ + 32 := by unfold rdAt; rw [if_pos hok]; rfl
  have g3 : rdErr b.length at_ 0 32 = 0 := rdErr_ok hok
  have g4 : ((b.drop at_).take 32).length = 32 := by rw [List.length_take, List.length_drop]; omega
  obtain ⟨A', hA'⟩ : ∃ A', A' = cutA A at_ cap 1 := ⟨_, rfl⟩
  have HT : Hid (Rd w .u8 A' ((b.drop at_).take 32)) := by rw [hA']; exact rd_cut hR at_ 32 cap hc
  have HF : Hid (∀ (w' : World), Below w.heap.size w w' → DoGot w (.slice A b.length cap) b at_ 0 4 N (.returned (.tuple #[.agg #[.slice A b.length cap, .int .i64 ((at_ : Int) + 32), .int .i64 0], .agg #[.int .u64 (0), (.slice A' 32 (cap - at_))]])) w') := fun w' hb => by
    refine ⟨(.slice A' 32 (cap - at_)), ?_, ?_, hb⟩
    · rw [hno, g2, g3]
      have ht : toldNum b at_ 0 4 N = 0 := by unfold toldNum; rw [if_neg (by omega)]
      rw [ht]
      rfl
    · have ht : toldBytes b at_ 0 4 N = (b.drop at_).take 32 := by unfold toldBytes; rw [if_neg (by omega), if_pos rfl, g1]; exact keyOf_all _ g4
      rw [ht]
      exact arg_of (HT.out.below hb) g4 (by omega)
  have hz : ∀ wx, (Instr.slice 22 (.slice A b.length cap) (some (.int .i64 at_)) (some (.int .i64 ((at_ : Int) + 32))) none).run Try.prog wx = .ok (.slice A' 32 (cap - at_)) wx := fun wx => by
    rw [run_slice_row bytesT A b.length cap at_ ((at_ : Int) + 32) .i64 .i64 (by omega) (by omega) (by omega) wx, hA']
    have e1 : ((at_ : Int) + 32).toNat - ((at_ : Nat) : Int).toNat = 32 := by omega
    rw [e1, Int.toNat_natCast]
  have e1 : ((0 : Int) != 0) = false := rfl
  have hle' : (at_ : Int) ≤ (b.length : Int) := by omega
  have hlen' : (b.length : Int) ≤ 140737488355328 := by omega
  have hcap' : (b.length : Int) ≤ (cap : Int) := by omega
  have G4 := Lib.hid g4
  have hmc : Hid (32 ≤ cap - at_) := by show _ ≤ _; omega
  clear hno hok g1 g2 g3 g4 hle hlen hc hR hA'
  generalize b.length = len at *
  obtain ⟨Z, hZ⟩ : ∃ Z, Z = List.replicate 32 (0 : BitVec 8) := ⟨_, rfl⟩
  have HZ := Lib.hid hZ
  clear hZ
  have hmk : ∀ wx, (Instr.makeSlice 22 (.int .i64 32) (.int .i64 32)).run Try.prog wx = .ok (.slice (some ⟨wx.heap.size, 0, none⟩) 32 32) (wx.alloc (.cells (encs .u8 Z) 5)) := fun wx => by
    rw [HZ.out]
    exact run_make_words (P := Try.prog) 22 5 .u8 8 1 Try.underlying22 bytesT.hi 32 (by omega) (by omega) wx
  go_enter Try.func17, Try.ntmps17
  go_wp2_with fail
  exact bodyPost_ret (v := .tuple #[.agg #[.slice A len cap, .int .i64 ((at_ : Int) + 32), .int .i64 0], .agg #[.int .u64 0, .slice A' 32 (cap - at_)]]) (by simp [results, Try.results17, go_sem]; try rfl) rfl (HF.out _ (by go_grown))
/-- The call, whatever the reader and the ask. -/
theorem do_any (b : List (BitVec 8)) (A : Option Addr) (cap at_ : Nat) (err kind N : Int) (w : World) (hk : 0 ≤ kind) (hk5 : kind < 5) (hR : Rd w .u8 A b) (hc : b.length ≤ cap) (hle : at_ ≤ b.length) (hlen : b.length ≤ 140737488355328) :
    Calls Try.prog 17 #[.agg #[.slice A b.length cap, .int .i64 at_, .int .i64 err], .agg #[.int .i64 kind, .int .i64 N]] w (DoGot w (.slice A b.length cap) b at_ err kind N) := by
  have h5 : kind = 0 ∨ kind = 1 ∨ kind = 2 ∨ kind = 3 ∨ kind = 4 := by omega
  by_cases herr : err = 0
  · rcases h5 with rfl | rfl | rfl | rfl | rfl
    · by_cases hs : 2 > (b.length : Int) - (at_ : Int)
      · exact do_short0 b A cap at_ err N w herr hs hR hc hle hlen
      · exact do_ok0 b A cap at_ err N w herr (by omega) hR hc hle hlen
    · by_cases hs : 4 > (b.length : Int) - (at_ : Int)
      · exact do_short1 b A cap at_ err N w herr hs hR hc hle hlen
      · exact do_ok1 b A cap at_ err N w herr (by omega) hR hc hle hlen
    · by_cases hs : 8 > (b.length : Int) - (at_ : Int)
      · exact do_short2 b A cap at_ err N w herr hs hR hc hle hlen
      · exact do_ok2 b A cap at_ err N w herr (by omega) hR hc hle hlen
    · by_cases hn : N < 0
      · exact do_neg3 b A cap at_ err N w herr hn hR hc hle hlen
      · by_cases hs : N > (b.length : Int) - (at_ : Int)
        · exact do_short3 b A cap at_ err N w herr (by omega) hs hR hc hle hlen
        · exact do_ok3 b A cap at_ err N w herr (by omega) (by omega) hR hc hle hlen
    · by_cases hs : 32 > (b.length : Int) - (at_ : Int)
      · exact do_short4 b A cap at_ err N w herr hs hR hc hle hlen
      · exact do_ok4 b A cap at_ err N w herr (by omega) hR hc hle hlen
  · rcases h5 with rfl | rfl | rfl | rfl | rfl
    · exact do_bad0 b A cap at_ err N w herr hR hc hle hlen
    · exact do_bad1 b A cap at_ err N w herr hR hc hle hlen
    · exact do_bad2 b A cap at_ err N w herr hR hc hle hlen
    · exact do_bad3 b A cap at_ err N w herr hR hc hle hlen
    · exact do_bad4 b A cap at_ err N w herr hR hc hle hlen
end Go.Proofs.Ytbpfdoemkogljaa
