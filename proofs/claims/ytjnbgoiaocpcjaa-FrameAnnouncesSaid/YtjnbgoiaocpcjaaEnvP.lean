/- frame's envelopes: which may be. -/
import Derived.Test.YtjnbgoiaocpcjaaFrRefG2
import Derived.Test.YtjnbgoiaocpcjaaEqFr
import Derived.Test.YtjnbgoiaocpcjaaOpenFr
namespace Go.Proofs.Ytjnbgoiaocpcjaa
open Go.RowKit Go.ChangeShapes Go.WideShapes
def envL (kd : Int) (a s : BitVec 32) (body : List (BitVec 8)) : List Value := [.int .i64 kd, .int .u32 (wb a), .int .u32 (wb s)] ++ encL .u8 body
def mayE (kd : Int) (s : BitVec 32) (body : List (BitVec 8)) : Bool := kd == 1 || (kd == 0 && (s == 0 && body.all (· == 0)))
def z105 : List (BitVec 8) := List.replicate 105 0
def env0 : List Value := envL 0 0 0 z105
theorem envL_length (kd : Int) (a s : BitVec 32) (body : List (BitVec 8)) (h : body.length = 105) : (envL kd a s body).length = 108 := by simp [envL, encL_length, h]
theorem envL_one (kd : Int) (a s : BitVec 32) (body : List (BitVec 8)) : (envL kd a s body).toArray.all (·.oneCell') = true := cat_one _ _ (by simp [Value.oneCell']) (encL_all body)
theorem sizeEnv : (Try.prog.info? 68).map (·.size) = some 108 := by kernel_rfl
theorem sizeEnvB : (Try.prog.info? 66).map (·.size) = some 105 := by kernel_rfl
theorem kernelZeroEnv (w : World) : (zeroValue 68).run Try.prog w = .ok (.agg env0.toArray) w := by kernel_rfl
theorem env0_length : env0.length = 108 := by kernel_rfl
theorem build_env (kd : Int) (a s : BitVec 32) (body : List (BitVec 8)) (hb : body.length = 105) (w : World) : (Instr.build 68 #[(0, .int .i64 kd), (1, .int .u32 (wb a)), (2, .int .u32 (wb s)), (3, .agg (encs .u8 body))]).run Try.prog w = .ok (.agg (envL kd a s body).toArray) w := by
  have h := run_build_all (P := Try.prog) 68 (Try.prog.fieldsOf 68) _ #[(0, 1), (1, 1), (2, 1), (3, 105)] (by kernel_rfl) kernelZeroEnv (fun w => by kernel_rfl) [.int .i64 kd, .int .u32 (wb a), .int .u32 (wb s), .agg (encs .u8 body)] (by simp [tiles, Value.cells, encs_size, hb]) (by simp [catCells, Value.cells, encs_size, hb, env0_length]) w
  have e : (catCells [.int .i64 kd, .int .u32 (wb a), .int .u32 (wb s), .agg (encs .u8 body)]).toArray = (envL kd a s body).toArray := by simp [catCells, Value.cells, envL, encs_toList]
  rw [e] at h
  exact h
set_option maxRecDepth 100000 in
theorem build_envh (kd : Int) (a s : BitVec 32) (w : World) : (Instr.build 68 #[(0, .int .i64 kd), (1, .int .u32 (wb a)), (2, .int .u32 (wb s))]).run Try.prog w = .ok (.agg (envL kd a s z105).toArray) w := by
  have h := run_build_first (P := Try.prog) 68 (Try.prog.fieldsOf 68) _ #[(0, 1), (1, 1), (2, 1), (3, 105)] (by kernel_rfl) kernelZeroEnv (fun w => by kernel_rfl) [.int .i64 kd, .int .u32 (wb a), .int .u32 (wb s)] (by simp [tiles, Value.cells]) (by simp [catCells, Value.cells, env0_length]) w
  have e : (catCells [.int .i64 kd, .int .u32 (wb a), .int .u32 (wb s)] ++ env0.drop 3).toArray = (envL kd a s z105).toArray := by
    have e3 : env0.drop 3 = encL .u8 z105 := rfl
    rw [e3]
    simp [catCells, Value.cells, envL]
  have e5 : (catCells [.int .i64 kd, .int .u32 (wb a), .int .u32 (wb s)]).length = 3 := by simp [catCells, Value.cells]
  rw [e5, show Value.cells (.agg env0.toArray) = env0.toArray from rfl, List.toList_toArray, e] at h
  exact h
theorem build_env0 (w : World) : (Instr.build 68 #[]).run Try.prog w = .ok (.agg env0.toArray) w := by kernel_rfl
theorem typesEnv : Try.prog.cellTypes Try.prog.depth 68 = some ([3, 27, 27] ++ List.replicate 105 5) := by kernel_rfl
theorem cell_int {P : Program} {W : World} {r : Reach} {base : Nat} {e : TypeId} {k : IntKind} (he : P.underlying e = some (.int k)) {v : Value} (h : Cell.okWide P W r base e v) : ∃ n : Int, v = .int k n := by
  unfold Cell.okWide at h
  rw [he] at h
  unfold Cell.ok at h
  rw [he] at h
  cases v <;> simp only at h <;> try exact h.elim
  obtain ⟨rfl, h⟩ := h
  exact ⟨_, rfl⟩
set_option maxRecDepth 100000 in
theorem open_env {W : World} {r : Reach} {base : Nat} {v : Value} (h : Value.okWide Try.prog W r base 68 v) : ∃ (kd : Int) (a s : BitVec 32) (body : List (BitVec 8)), body.length = 105 ∧ v = .agg (envL kd a s body).toArray := by
  obtain ⟨cs, rfl, hl, hc⟩ := okWide_cells Try.underlying68 rfl _ typesEnv (by kernel_rfl) h
  have hl' : cs.length = 108 := by rw [hl]; simp
  obtain ⟨ps, hp, e2⟩ := seg_words (n := 32) Try.underlying27 isU32 cs _ 1 2 (by kernel_rfl) hl hc
  obtain ⟨body, hb, e3⟩ := seg_words (n := 8) Try.underlying5 isU8 cs _ 3 105 (by kernel_rfl) hl hc
  obtain ⟨a, s, rfl⟩ : ∃ a s, ps = [a, s] := by
    match ps, hp with
    | [p, n], _ => exact ⟨p, n, rfl⟩
  match cs, hl', hc, e2, e3 with
  | c0 :: cs, hl', hc, e2, e3 =>
    obtain ⟨kd, rfl⟩ := cell_int Try.underlying3 (hc 0 c0 3 rfl rfl)
    refine ⟨kd, a, s, body, hb, ?_⟩
    congr 2
    rw [List.take_of_length_le (by rw [List.length_drop]; omega)] at e3
    rw [List.drop_succ_cons, List.drop_zero] at e2
    have e4 : cs.drop 2 = body.map fun x => Value.int .u8 (wb x) := e3
    have : cs = cs.take 2 ++ cs.drop 2 := (List.take_append_drop _ _).symm
    rw [this, e2, e4]
    simp [envL, encL]
set_option maxRecDepth 100000 in
theorem eq_env (d : Nat) (kd : Int) (a s : BitVec 32) (body : List (BitVec 8)) (hb : body.length = 105) (w : World) : (Op.equalIn (d + 3) 68 (.agg (envL kd a s body).toArray) (.agg (envL kd a s body).toArray)).run Try.prog w = .ok true w := by
  rw [run_equalIn_struct w (d + 2) _ _ _ (by kernel_rfl) (by kernel_rfl)]
  refine eqFields_refl _ _ _ (fun f hf => ?_) w
  simp only [Program.fieldsOf, Try.underlying68, List.mem_cons, List.not_mem_nil, or_false] at hf
  rcases hf with rfl | rfl | rfl | rfl
  · refine ⟨.int .i64 kd, fun w => ?_, fun w => by rw [run_equalIn_int w (d + 1) _ .i64 .i64 _ _ Try.underlying3]; simp⟩
    exact run_part_cell (P := Try.prog) 3 .i64 Try.underlying3 [] ([.int .u32 (wb a), .int .u32 (wb s)] ++ encL .u8 body) (.int .i64 kd) w
  · refine ⟨.int .u32 (wb a), fun w => ?_, fun w => by rw [run_equalIn_int w (d + 1) _ .u32 .u32 _ _ Try.underlying27]; simp⟩
    exact run_part_cell (P := Try.prog) 27 .u32 Try.underlying27 [.int .i64 kd] ([.int .u32 (wb s)] ++ encL .u8 body) (.int .u32 (wb a)) w
  · refine ⟨.int .u32 (wb s), fun w => ?_, fun w => by rw [run_equalIn_int w (d + 1) _ .u32 .u32 _ _ Try.underlying27]; simp⟩
    exact run_part_cell (P := Try.prog) 27 .u32 Try.underlying27 [.int .i64 kd, .int .u32 (wb a)] (encL .u8 body) (.int .u32 (wb s)) w
  · refine ⟨.agg (encs .u8 body), fun w => ?_, fun w => eqArr _ 5 105 d Try.underlying66 Try.underlying5 (by kernel_rfl) body hb w⟩
    have := run_part_agg (P := Try.prog) 66 _ Try.underlying66 rfl 105 (by kernel_rfl) [.int .i64 kd, .int .u32 (wb a), .int .u32 (wb s)] (encL .u8 body) [] (by rw [encL_length, hb]) w
    rw [List.append_nil] at this
    exact this
end Go.Proofs.Ytjnbgoiaocpcjaa
