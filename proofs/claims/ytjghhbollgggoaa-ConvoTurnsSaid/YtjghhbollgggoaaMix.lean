/- A region that draws its order, walked once in the order of the text: operations that yield whatever the world are taken first; reads are taken first while a condition S on the world holds; the others (calls, stores, allocations) each stand alone when they come up. One check by the kernel for a region. -/
import Derived.Test.YtjghhbollgggoaaWLast
import Derived.WalkKit
import Derived.BigQuiet
import Derived.Deep.QuietTactic
namespace Go.Proofs.Ytjghhbollgggoaa
open Go.RowKit Go.Proofs.YtjghhbollgggoaaW.PrintLast

section
variable {P : Program} {ops : Array Oper} {Q : Exit → Act → World → Prop} {S : World → Prop} {eff rd ds : List Nat}

/-- The order of a walk: step by step; where two operations that are run alone may come up, both ways. -/
inductive Plan where
  | done
  | step (i : Nat) (rest : Plan)
  | fork (i j : Nat) (p q : Plan)
def Plan.size : Plan → Nat
  | .done => 0
  | .step _ r => r.size + 1
  | .fork _ _ p _ => p.size + 1
def Plan.of : List Nat → Plan → Plan
  | [], p => p
  | i :: l, p => .step i (Plan.of l p)

/-- What has come up. -/
def marks (n : Nat) (done : List Nat) : Array Bool := done.foldr (fun i l => l.setIfInBounds i true) (Array.replicate n false)

/-- Each of ds that has not come up waits for i by an edge of its own. -/
def lastB1 (md : Region.Mode) (ops : Array Oper) (l : Array Bool) (ds : List Nat) (i : Nat) : Bool :=
  ds.all fun d => l.getD d true || Region.reachB md ops i 1 d

/-- What the kernel checks of a region: eff: the operations that are run alone; rd: those that read; ds: the stores behind which S is not shown. -/
def mixAt (md : Region.Mode) (ops : Array Oper) (eff rd ds done : List Nat) (i : Nat) : Bool :=
  let l := marks ops.size done
  if eff.contains i then Region.ready md ops l == [i]
  else Region.free md ops l i && (Region.ready md ops l).contains i && (!rd.contains i || (Region.closedB md ops l && lastB1 md ops l ds i && ds.all fun d => !done.contains d))
/-- Each place of the plan is checked behind those ahead of it. -/
def mixRun (md : Region.Mode) (ops : Array Oper) (eff rd ds : List Nat) : List Nat → Plan → Bool
  | done, .done => Region.ready md ops (marks ops.size done) == []
  | done, .step i rest => mixAt md ops eff rd ds done i && mixRun md ops eff rd ds (i :: done) rest
  | done, .fork i j p q => Region.ready md ops (marks ops.size done) == [i, j] && eff.contains i && eff.contains j && p.size == q.size && mixRun md ops eff rd ds (i :: done) p && mixRun md ops eff rd ds (j :: done) q
def mixOK (md : Region.Mode) (ops : Array Oper) (eff rd ds : List Nat) (plan : Plan) : Bool :=
  ops.size == plan.size && Region.noSelect ops && ds.all (fun d => eff.contains d) && mixRun md ops eff rd ds [] plan

/-- The walk, in that order. -/
def wpMix (P : Program) (ops : Array Oper) (Q : Exit → Act → World → Prop) (S : World → Prop) (eff rd ds : List Nat) : Plan → Act → World → Prop
  | .done, a, w => Q .normal a w
  | .step i rest, a, w =>
    match ops[i]? with
    | none => False
    | some o =>
      if eff.contains i then
        if Region.wanted o (yielded ops a.tmps) then o.wp P a w (fun a' w' => (ds.contains i = false → S w → S w') ∧ wpMix P ops Q S eff rd ds rest a' w') Q
        else wpMix P ops Q S eff rd ds rest (a.put o.dst undef) w
      else
        if Region.wanted o (yielded ops a.tmps) then ∃ v, (∀ w', (rd.contains i = true → S w') → (execOp a.eval o).run P w' = .ok (.value v) w') ∧ wpMix P ops Q S eff rd ds rest (a.put o.dst v) w
        else wpMix P ops Q S eff rd ds rest (a.put o.dst undef) w
  | .fork i j p q, a, w =>
    match ops[i]?, ops[j]? with
    | some o, some o' =>
      (if Region.wanted o (yielded ops a.tmps) then o.wp P a w (fun a' w' => (ds.contains i = false → S w → S w') ∧ wpMix P ops Q S eff rd ds p a' w') Q
        else wpMix P ops Q S eff rd ds p (a.put o.dst undef) w) ∧
      (if Region.wanted o' (yielded ops a.tmps) then o'.wp P a w (fun a' w' => (ds.contains j = false → S w → S w') ∧ wpMix P ops Q S eff rd ds q a' w') Q
        else wpMix P ops Q S eff rd ds q (a.put o'.dst undef) w)
    | _, _ => False

theorem mix_any (hQ : ∀ d v c a w, Q (.panic c) (a.put d v) w → Q (.panic c) a w) {n : Nat} (hn : ops.size = n) (hsel : Region.noSelect ops = true) (hdsE : ds.all (fun d => eff.contains d) = true) :
    ∀ (rest : Plan) (done : List Nat) (a : Act) (w : World), mixRun .any ops eff rd ds done rest = true → (ds.all (fun d => !done.contains d) = true → S w) →
      wpMix P ops Q S eff rd ds rest a w → wpAnyLast P .any ops Q S ds rest.size (marks n done) a w := by
  intro rest
  induction rest with
  | done =>
    intro done a w hrun _ h
    unfold mixRun at hrun
    rw [hn] at hrun
    exact ⟨by simpa using hrun, h⟩
  | step i rest ih =>
    intro done a w hrun hS h
    unfold mixRun at hrun
    rw [Bool.and_eq_true] at hrun
    obtain ⟨hat, hrun'⟩ := hrun
    unfold wpMix at h
    cases ho : ops[i]? with
    | none =>
      rw [ho] at h
      exact h.elim
    | some o =>
      simp only [ho] at h
      unfold mixAt at hat
      rw [hn] at hat
      have hmk : (marks n done).setIfInBounds i true = marks n (i :: done) := rfl
      have hSnext : ∀ w' : World, (ds.contains i = false → S w → S w') → (ds.all (fun d => !(i :: done).contains d) = true → S w') := by
        intro w' hk hd
        have hd' := List.all_eq_true.1 hd
        refine hk ?_ (hS ?_)
        · rw [Bool.eq_false_iff]
          intro hc
          have hm : i ∈ ds := by simpa using hc
          have := hd' i hm
          simp at this
        · rw [List.all_eq_true]
          intro d hm
          have := hd' d hm
          simp at this ⊢
          exact this.2
      by_cases he : eff.contains i = true
      · simp only [he, if_true] at hat h
        have hr : Region.ready .any ops (marks n done) = [i] := by simpa using hat
        refine wpAnyLast_all hr (by simp) ?_
        intro j hj
        simp only [List.mem_singleton] at hj
        subst hj
        rw [hmk]
        unfold wpOp
        simp only [ho]
        split at h
        · rename_i hw
          rw [if_pos hw]
          exact .inl (Oper.wp_mono (fun a' w' h' => ⟨fun hd hs => h'.1 (Bool.eq_false_iff.2 fun hc => hd (by simpa using hc)) hs, ih (j :: done) a' w' hrun' (hSnext w' h'.1) h'.2⟩) h)
        · rename_i hw
          rw [if_neg hw]
          exact ⟨fun _ hs => hs, ih (j :: done) _ w hrun' (hSnext w (fun _ hs => hs)) h⟩
      · simp only [he, Bool.false_eq_true, if_false, Bool.and_eq_true] at hat h
        obtain ⟨⟨hf, hr⟩, hrd⟩ := hat
        have hrdy : i ∈ Region.ready .any ops (marks n done) := by simpa using hr
        have hnd : ds.contains i = false := by
          rw [Bool.eq_false_iff]
          intro hc
          have hm : i ∈ ds := by simpa using hc
          exact he (List.all_eq_true.1 hdsE i hm)
        have main : ∀ v, ((Region.wanted o (yielded ops a.tmps) = true ∧ ∀ w', (rd.contains i = true → S w') → (execOp a.eval o).run P w' = .ok (.value v) w') ∨ (Region.wanted o (yielded ops a.tmps) = false ∧ v = undef)) →
            wpMix P ops Q S eff rd ds rest (a.put o.dst v) w → wpAnyLast P .any ops Q S ds (rest.size + 1) (marks n done) a w := by
          intro v hy hmix
          have hnext := ih (i :: done) (a.put o.dst v) w hrun' (hSnext w (fun _ hs => hs)) hmix
          rw [← hmk] at hnext
          by_cases hrc : rd.contains i = true
          · simp only [hrc, Bool.not_true, Bool.false_or, Bool.and_eq_true] at hrd
            obtain ⟨⟨hcl, hlast⟩, hds⟩ := hrd
            refine wpAnyLast_first ho (Region.noSelect_spec hsel) (fun c a w => hQ _ _ c a w) 1 _ _ a w (Region.free_spec ho hf) (Region.closedB_spec hcl) ?_ hrdy ?_ (hS hds) hnext
            · intro d hm hun
              have := List.all_eq_true.1 hlast d hm
              rw [hun] at this
              simpa using this
            · exact hy.imp (fun ⟨h1, h2⟩ => ⟨h1, fun w' hs => h2 w' (fun _ => hs)⟩) id
          · refine wpAnyLast_any ho (Region.noSelect_spec hsel) (fun c a w => hQ _ _ c a w) _ _ a w (Region.free_spec ho hf) hrdy ?_ hnext
            exact hy.imp (fun ⟨h1, h2⟩ => ⟨h1, fun w' => h2 w' (fun hc => absurd hc hrc)⟩) id
        split at h
        · rename_i hw
          obtain ⟨v, hv, hm⟩ := h
          exact main v (.inl ⟨hw, hv⟩) hm
        · rename_i hw
          exact main undef (.inr ⟨by simpa using hw, rfl⟩) h

  | fork i j p q ihp ihq =>
    intro done a w hrun hS h
    unfold mixRun at hrun
    rw [hn] at hrun
    simp only [Bool.and_eq_true, beq_iff_eq] at hrun
    obtain ⟨⟨⟨⟨⟨hr, _⟩, _⟩, hsz⟩, hp⟩, hq⟩ := hrun
    have hSnext : ∀ (k : Nat) (w' : World), (ds.contains k = false → S w → S w') → (ds.all (fun d => !(k :: done).contains d) = true → S w') := by
      intro k w' hk hd
      have hd' := List.all_eq_true.1 hd
      refine hk ?_ (hS ?_)
      · rw [Bool.eq_false_iff]
        intro hc
        have hm : k ∈ ds := by simpa using hc
        have := hd' k hm
        simp at this
      · rw [List.all_eq_true]
        intro d hm
        have := hd' d hm
        simp at this ⊢
        exact this.2
    unfold wpMix at h
    cases ho : ops[i]? with
    | none =>
      rw [ho] at h
      exact h.elim
    | some o =>
      cases ho' : ops[j]? with
      | none =>
        rw [ho, ho'] at h
        exact h.elim
      | some o' =>
        simp only [ho, ho'] at h
        obtain ⟨h1, h2⟩ := h
        refine wpAnyLast_all hr (by simp) ?_
        intro k hk
        have hmk : ∀ k, (marks n done).setIfInBounds k true = marks n (k :: done) := fun _ => rfl
        rw [hmk]
        simp only [List.mem_cons, List.not_mem_nil, or_false] at hk
        rcases hk with rfl | rfl
        · unfold wpOp
          simp only [ho]
          split at h1
          · rename_i hw
            rw [if_pos hw]
            exact .inl (Oper.wp_mono (fun a' w' h' => ⟨fun hd hs => h'.1 (Bool.eq_false_iff.2 fun hc => hd (by simpa using hc)) hs, ihp (k :: done) a' w' hp (hSnext k w' h'.1) h'.2⟩) h1)
          · rename_i hw
            rw [if_neg hw]
            exact ⟨fun _ hs => hs, ihp (k :: done) _ w hp (hSnext k w (fun _ hs => hs)) h1⟩
        · unfold wpOp
          simp only [ho']
          split at h2
          · rename_i hw
            rw [if_pos hw]
            exact .inl (Oper.wp_mono (fun a' w' h' => ⟨fun hd hs => h'.1 (Bool.eq_false_iff.2 fun hc => hd (by simpa using hc)) hs, by
              have := ihq (k :: done) a' w' hq (hSnext k w' h'.1) h'.2
              rw [← hsz] at this
              exact this⟩) h2)
          · rename_i hw
            rw [if_neg hw]
            refine ⟨fun _ hs => hs, ?_⟩
            have := ihq (k :: done) _ w hq (hSnext k w (fun _ hs => hs)) h2
            rw [← hsz] at this
            exact this

/-- THE REGION. -/
theorem mix_plan (S : World → Prop) (plan : Plan) (eff rd ds : List Nat) {id : Nat} {l : List Oper} {a : Act} {w : World} (hm : P.follows .mixedOrders = true) (hok : mixOK .any l.toArray eff rd ds plan = true)
    (hQ : ∀ d v c a w, Q (.panic c) (a.put d v) w → Q (.panic c) a w) (hS : S w.drew) (h : wpMix P l.toArray Q S eff rd ds plan a w.drew) : (Code.region id l.toArray true).wp P Q a w := by
  simp only [mixOK, Bool.and_eq_true, beq_iff_eq] at hok
  obtain ⟨⟨⟨hn, hsel⟩, hdsE⟩, hrun⟩ := hok
  refine wp_region_last (S := S) (ds := ds) hm ?_
  have := mix_any (P := P) (Q := Q) (S := S) hQ rfl hsel hdsE plan [] a w.drew hrun (fun _ => hS) h
  rw [← hn] at this
  exact this

/-- A region walked in one order. -/
theorem mix_start (S : World → Prop) (order eff rd ds : List Nat) {id : Nat} {l : List Oper} {a : Act} {w : World} (hm : P.follows .mixedOrders = true) (hok : mixOK .any l.toArray eff rd ds (Plan.of order .done) = true)
    (hQ : ∀ d v c a w, Q (.panic c) (a.put d v) w → Q (.panic c) a w) (hS : S w.drew) (h : wpMix P l.toArray Q S eff rd ds (Plan.of order .done) a w.drew) : (Code.region id l.toArray true).wp P Q a w :=
  mix_plan S (Plan.of order .done) eff rd ds hm hok hQ hS h

variable {o o' : Oper} {rest p q : Plan} {i j : Nat} {a : Act} {w : World}
/-- Two operations that are run alone may come up: both ways. -/
theorem mix_fork (ho : ops[i]? = some o) (ho' : ops[j]? = some o')
    (h : ∀ K : Act → World → Prop, (∀ a' w', (ds.contains i = false → S w → S w') → wpMix P ops Q S eff rd ds p a' w' → K a' w') → if Region.wanted o (yielded ops a.tmps) then o.wp P a w K Q else K (a.put o.dst undef) w)
    (h' : ∀ K : Act → World → Prop, (∀ a' w', (ds.contains j = false → S w → S w') → wpMix P ops Q S eff rd ds q a' w' → K a' w') → if Region.wanted o' (yielded ops a.tmps) then o'.wp P a w K Q else K (a.put o'.dst undef) w) :
    wpMix P ops Q S eff rd ds (.fork i j p q) a w := by
  unfold wpMix
  simp only [ho, ho']
  refine ⟨?_, ?_⟩
  · have := h (fun a' w' => (ds.contains i = false → S w → S w') ∧ wpMix P ops Q S eff rd ds p a' w') (fun _ _ h1 h2 => ⟨h1, h2⟩)
    split
    · rename_i hw
      rwa [if_pos hw] at this
    · rename_i hw
      rw [if_neg hw] at this
      exact this.2
  · have := h' (fun a' w' => (ds.contains j = false → S w → S w') ∧ wpMix P ops Q S eff rd ds q a' w') (fun _ _ h1 h2 => ⟨h1, h2⟩)
    split
    · rename_i hw
      rwa [if_pos hw] at this
    · rename_i hw
      rw [if_neg hw] at this
      exact this.2
theorem mix_nil (h : Q .normal a w) : wpMix P ops Q S eff rd ds .done a w := h
/-- An operation that is run alone. -/
theorem mix_eff (ho : ops[i]? = some o) (he : eff.contains i = true)
    (h : ∀ K : Act → World → Prop, (∀ a' w', (ds.contains i = false → S w → S w') → wpMix P ops Q S eff rd ds rest a' w' → K a' w') → if Region.wanted o (yielded ops a.tmps) then o.wp P a w K Q else K (a.put o.dst undef) w) :
    wpMix P ops Q S eff rd ds (.step i rest) a w := by
  unfold wpMix
  simp only [ho]
  rw [if_pos he]
  have := h (fun a' w' => (ds.contains i = false → S w → S w') ∧ wpMix P ops Q S eff rd ds rest a' w') (fun _ _ h1 h2 => ⟨h1, h2⟩)
  split
  · rename_i hw
    rwa [if_pos hw] at this
  · rename_i hw
    rw [if_neg hw] at this
    exact this.2
/-- The same for a store behind which S is not shown. -/
theorem mix_ds (ho : ops[i]? = some o) (he : eff.contains i = true) (hd : ds.contains i = true)
    (h : ∀ K : Act → World → Prop, (∀ a' w', wpMix P ops Q S eff rd ds rest a' w' → K a' w') → if Region.wanted o (yielded ops a.tmps) then o.wp P a w K Q else K (a.put o.dst undef) w) :
    wpMix P ops Q S eff rd ds (.step i rest) a w :=
  mix_eff ho he fun K hK => h K fun a' w' hm => hK a' w' (fun hn => by rw [hd] at hn; cases hn) hm
/-- An operation that yields whatever the world. -/
theorem mix_pure (ho : ops[i]? = some o) (he : eff.contains i = false)
    (h : ∀ K : Act → Prop, (∀ a', wpMix P ops Q S eff rd ds rest a' w → K a') → if Region.wanted o (yielded ops a.tmps) then ∃ v, (∀ w', (execOp a.eval o).run P w' = .ok (.value v) w') ∧ K (a.put o.dst v) else K (a.put o.dst undef)) :
    wpMix P ops Q S eff rd ds (.step i rest) a w := by
  unfold wpMix
  simp only [ho]
  rw [if_neg (by rw [he]; simp)]
  have := h (fun a' => wpMix P ops Q S eff rd ds rest a' w) (fun _ h => h)
  split
  · rename_i hw
    rw [if_pos hw] at this
    obtain ⟨v, h1, h2⟩ := this
    exact ⟨v, fun w' _ => h1 w', h2⟩
  · rename_i hw
    rwa [if_neg hw] at this
/-- A read: what it yields in every world that meets S. -/
theorem mix_read (v : Value) (ho : ops[i]? = some o) (he : eff.contains i = false) (hr : rd.contains i = true) (hw : Region.wanted o (yielded ops a.tmps) = true) (hv : ∀ w', S w' → (execOp a.eval o).run P w' = .ok (.value v) w')
    (h : wpMix P ops Q S eff rd ds rest (a.put o.dst v) w) : wpMix P ops Q S eff rd ds (.step i rest) a w := by
  unfold wpMix
  simp only [ho]
  rw [if_neg (by rw [he]; simp), if_pos hw]
  exact ⟨v, fun w' hs => hv w' (hs hr), h⟩
/-- An operation whose guard says no. -/
theorem mix_skip (ho : ops[i]? = some o) (hw : Region.wanted o (yielded ops a.tmps) = false) (h : wpMix P ops Q S eff rd ds rest (a.put o.dst undef) w) : wpMix P ops Q S eff rd ds (.step i rest) a w := by
  unfold wpMix
  simp only [ho, hw]
  simpa using h
end
end Go.Proofs.Ytjghhbollgggoaa
