/- frame's records held against each other. -/
import Derived.Test.YtjnbgoiaocpcjaaFrGet
namespace Go.Proofs.Ytjnbgoiaocpcjaa
open Go.RowKit
theorem eqFields_refl {P : Program} (d : Nat) (xs : Array Value) : ∀ fs : List Field, (∀ f ∈ fs, ∃ v, (∀ w, (part f.type xs f.offset).run P w = .ok v w) ∧ ∀ w, (Op.equalIn d f.type v v).run P w = .ok true w) → ∀ w, (Op.eqFields d xs xs fs).run P w = .ok true w
  | [], _, w => by simp [Op.eqFields]
  | f :: fs, h, w => by
    obtain ⟨v, h1, h2⟩ := h f (by simp)
    have ih := eqFields_refl d xs fs (fun g hg => h g (by simp [hg])) w
    rw [Op.eqFields]
    split
    · simp only [Sem.run_bind, h1, h2, Result.andThen_ok, Bool.not_true, Bool.false_eq_true, if_false, ih]
    · exact ih
theorem eqArr (t e : TypeId) (len d : Nat) (ht : Try.prog.underlying t = some (.array len e)) (he : Try.prog.underlying e = some (.int .u8)) (hs : (Try.prog.info? e).map (·.size) = some 1) (l : List (BitVec 8)) (hl : l.length = len) (w : World) :
    (Op.equalIn (d + 2) t (.agg (encs .u8 l)) (.agg (encs .u8 l))).run Try.prog w = .ok true w := by
  rw [run_equalIn_encs w d t e .u8 len ht he hs l l hl hl]
  simp
theorem eq_hdr (d : Nat) (k : List (BitVec 8)) (p n : BitVec 32) (hk : k.length = 32) (w : World) : (Op.equalIn (d + 3) 29 (.agg (hdrL k p n).toArray) (.agg (hdrL k p n).toArray)).run Try.prog w = .ok true w := by
  rw [run_equalIn_struct w (d + 2) _ _ _ (by kernel_rfl) (by kernel_rfl)]
  refine eqFields_refl _ _ _ (fun f hf => ?_) w
  simp only [Program.fieldsOf, Try.underlying29, List.mem_cons, List.not_mem_nil, or_false] at hf
  rcases hf with rfl | rfl | rfl
  · refine ⟨.agg (encs .u8 k), fun w => ?_, fun w => eqArr _ 5 32 d Try.underlying26 Try.underlying5 (by kernel_rfl) k hk w⟩
    have := run_part_agg (P := Try.prog) 26 _ Try.underlying26 rfl 32 (by kernel_rfl) [] (encL .u8 k) [.int .u32 (wb p), .int .u32 (wb n)] (by rw [encL_length, hk]) w
    exact this
  · refine ⟨.int .u32 (wb p), fun w => ?_, fun w => by rw [run_equalIn_int w (d + 1) _ .u32 .u32 _ _ Try.underlying27]; simp⟩
    have := run_part_cell (P := Try.prog) 27 .u32 Try.underlying27 (encL .u8 k) [.int .u32 (wb n)] (.int .u32 (wb p)) w
    rw [encL_length, hk] at this
    simpa [hdrL] using this
  · refine ⟨.int .u32 (wb n), fun w => ?_, fun w => by rw [run_equalIn_int w (d + 1) _ .u32 .u32 _ _ Try.underlying27]; simp⟩
    have := run_part_cell (P := Try.prog) 27 .u32 Try.underlying27 (encL .u8 k ++ [.int .u32 (wb p)]) [] (.int .u32 (wb n)) w
    rw [List.length_append, encL_length, hk] at this
    simpa [hdrL] using this
theorem eq_msg (d : Nat) (k body : List (BitVec 8)) (p n : BitVec 32) (hk : k.length = 32) (hb : body.length = 65) (w : World) : (Op.equalIn (d + 4) 32 (.agg (msgL k p n body).toArray) (.agg (msgL k p n body).toArray)).run Try.prog w = .ok true w := by
  rw [run_equalIn_struct w (d + 3) _ _ _ (by kernel_rfl) (by kernel_rfl)]
  refine eqFields_refl _ _ _ (fun f hf => ?_) w
  simp only [Program.fieldsOf, Try.underlying32, List.mem_cons, List.not_mem_nil, or_false] at hf
  rcases hf with rfl | rfl
  · refine ⟨.agg (hdrL k p n).toArray, fun w => ?_, fun w => eq_hdr d k p n hk w⟩
    exact run_part_agg (P := Try.prog) 29 _ Try.underlying29 rfl 34 (by kernel_rfl) [] (hdrL k p n) (encL .u8 body) (hdrL_length k p n hk) w
  · refine ⟨.agg (encs .u8 body), fun w => ?_, fun w => eqArr _ 5 65 (d + 1) Try.underlying30 Try.underlying5 (by kernel_rfl) body hb w⟩
    have := run_part_agg (P := Try.prog) 30 _ Try.underlying30 rfl 65 (by kernel_rfl) (hdrL k p n) (encL .u8 body) [] (by rw [encL_length, hb]) w
    rw [hdrL_length k p n hk, List.append_nil] at this
    exact this
theorem eq_exc (d : Nat) (drop body : List (BitVec 8)) (hk : drop.length = 16) (hb : body.length = 130) (w : World) : (Op.equalIn (d + 4) 37 (.agg (excL drop body).toArray) (.agg (excL drop body).toArray)).run Try.prog w = .ok true w := by
  rw [run_equalIn_struct w (d + 3) _ _ _ (by kernel_rfl) (by kernel_rfl)]
  refine eqFields_refl _ _ _ (fun f hf => ?_) w
  simp only [Program.fieldsOf, Try.underlying37, List.mem_cons, List.not_mem_nil, or_false] at hf
  rcases hf with rfl | rfl
  · refine ⟨.agg (encs .u8 drop), fun w => ?_, fun w => eqArr _ 5 16 (d + 1) Try.underlying34 Try.underlying5 (by kernel_rfl) drop hk w⟩
    exact run_part_agg (P := Try.prog) 34 _ Try.underlying34 rfl 16 (by kernel_rfl) [] (encL .u8 drop) (encL .u8 body) (by rw [encL_length, hk]) w
  · refine ⟨.agg (encs .u8 body), fun w => ?_, fun w => eqArr _ 5 130 (d + 1) Try.underlying35 Try.underlying5 (by kernel_rfl) body hb w⟩
    have := run_part_agg (P := Try.prog) 35 _ Try.underlying35 rfl 130 (by kernel_rfl) (encL .u8 drop) (encL .u8 body) [] (by rw [encL_length, hb]) w
    rw [encL_length, hk, List.append_nil] at this
    exact this
theorem wpList_build_g {P : Program} {ops : Array Oper} {rest : List Oper} {o : Oper} {a : Act} {Q : Exit → Act → World → Prop} {w : World} (hw : Region.wanted o (yielded ops a.tmps) = true) (t : TypeId) (parts : Array (Nat × Operand)) (ho : o.op = .build t parts) (v : Value) (vs : Array (Nat × Value)) (hrun : ∀ wx, (Instr.build t vs).run P wx = .ok v wx) (hvs : (parts.map fun p => (p.1, a.eval p.2)) = vs) (h : wpList P ops Q rest (a.put o.dst v) w) : wpList P ops Q (o :: rest) a w := by
  refine wpList_step fun K hK => ?_
  rw [if_pos hw]
  subst hvs
  unfold Oper.wp execOp
  simp only [ho, Sem.run_bind, hrun, Result.andThen_ok, Sem.run_pure]
  exact hK _ _ h
end Go.Proofs.Ytjnbgoiaocpcjaa
