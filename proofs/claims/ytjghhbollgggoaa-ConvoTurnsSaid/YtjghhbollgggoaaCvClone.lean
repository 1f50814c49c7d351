/- Lists and conversations cloned (printed by gencvclone.py). -/
import Derived.Test.YtjghhbollgggoaaCvRep
import Derived.Test.YtjghhbollgggoaaShr
import Derived.Lib.SliceRun
namespace Go.Proofs.Ytjghhbollgggoaa
open Go.RowKit
set_option linter.unusedVariables false
set_option linter.unusedSimpArgs false
theorem results_cell1 {P : Program} {fn : Func} {p : Tmp} {ty : TypeId} (h : fn.results = #[.cell p ty]) (tmps : Array Value) (w : World) (g : Nat) (t : TypeId) (cs : Array Value) (fr : Nat × Nat) (d : TypeDesc)
    (hp : tmps.getD p undef = .pointer (some ⟨g, 0, none⟩)) (hg : w.heap[g]? = some (.cells cs t fr))
    (hu : P.underlying ty = some d) (hd : (match d with | .struct _ | .array _ _ => true | _ => false) = true) (hi : (P.info? ty).map (·.size) = some cs.size) :
    (results fn tmps).run P w = .ok (.agg cs) w := by
  have hp' : tmps[p]?.getD undef = .pointer (some ⟨g, 0, none⟩) := by simpa using hp
  simp [results, h, hp', asAddr, run_loadVar_row w g t ty cs fr d hg hu hd hi]
theorem cells_none {E : Type} {L : El Try.prog E} {w : World} {l : List E} (hok : ∀ x ∈ l, L.ok x) (hc : Cells w none (l.flatMap L.f)) : l = [] := by
  cases l with
  | nil => rfl
  | cons x l =>
    obtain ⟨g, off, h, _⟩ := cells_at hok hc (i := 0) (x := x) rfl
    cases h
set_option maxHeartbeats 1000000 in
theorem clone_out {l : List CE} {v : Value} (w : World) (h : ArgE outEl w v l) (hlen : l.length ≤ 1099511627776) :
    Calls Try.prog 59 #[v] w fun e w' => ∃ u, e = .returned u ∧ OwnE outEl w' w.heap.size u l ∧ Below w.heap.size w w' := by
  obtain ⟨A, cap, rfl, hc, hok, hC⟩ := h
  cases A with
  | none =>
    obtain rfl := cells_none hok hC
    have k1 := fun wx => Lib.run_eql_slice_nil (P := Try.prog) wx 23 39 none 0 cap 0 0 Try.underlying23
    clear hC hok
    go_enter Try.func59, Try.ntmps59
    go_wp2
    go_ret
    exact ⟨_, rfl, OwnE.nil _ _, Below.refl _ _⟩
  | some a =>
    have HA : Hid (ArgE outEl w (.slice (some a) l.length cap) l) := ⟨_, _, rfl, hc, hok, hC⟩
    have k1 := fun wx => Lib.run_eql_slice_nil (P := Try.prog) wx 23 39 (some a) l.length cap 0 0 Try.underlying23
    have hn : Below w.heap.size w (w.alloc (.cells #[] 39)) := (Below.refl _ _).alloc (Nat.le_refl _) _
    have HO := Lib.hid (OwnE.empty (L := outEl) w (Nat.le_refl w.heap.size))
    have HN := Lib.hid hlen
    clear hc hok hC hlen
    go_enter Try.func59, Try.ntmps59
    go_wp2_with (first | (at_builtin; refine wpList_appE outEl rfl _ _ rfl w.heap.size _ [] rfl HO.out _ l rfl (HA.out.below hn) (by have := HN.out; show (0 + l.length) * 112 ≤ _; omega) hn.size (fun v1 w1 o1 hgr _ hb1 => ?_); rw [List.nil_append] at o1) | fail)
    go_ret
    exact ⟨_, rfl, o1, hn.trans hb1⟩
set_option maxHeartbeats 1000000 in
theorem clone_in {l : List CE} {v : Value} (w : World) (h : ArgE inEl w v l) (hlen : l.length ≤ 1099511627776) :
    Calls Try.prog 60 #[v] w fun e w' => ∃ u, e = .returned u ∧ OwnE inEl w' w.heap.size u l ∧ Below w.heap.size w w' := by
  obtain ⟨A, cap, rfl, hc, hok, hC⟩ := h
  cases A with
  | none =>
    obtain rfl := cells_none hok hC
    have k1 := fun wx => Lib.run_eql_slice_nil (P := Try.prog) wx 24 55 none 0 cap 0 0 Try.underlying24
    clear hC hok
    go_enter Try.func60, Try.ntmps60
    go_wp2
    go_ret
    exact ⟨_, rfl, OwnE.nil _ _, Below.refl _ _⟩
  | some a =>
    have HA : Hid (ArgE inEl w (.slice (some a) l.length cap) l) := ⟨_, _, rfl, hc, hok, hC⟩
    have k1 := fun wx => Lib.run_eql_slice_nil (P := Try.prog) wx 24 55 (some a) l.length cap 0 0 Try.underlying24
    have hn : Below w.heap.size w (w.alloc (.cells #[] 55)) := (Below.refl _ _).alloc (Nat.le_refl _) _
    have HO := Lib.hid (OwnE.empty (L := inEl) w (Nat.le_refl w.heap.size))
    have HN := Lib.hid hlen
    clear hc hok hC hlen
    go_enter Try.func60, Try.ntmps60
    go_wp2_with (first | (at_builtin; refine wpList_appE inEl rfl _ _ rfl w.heap.size _ [] rfl HO.out _ l rfl (HA.out.below hn) (by have := HN.out; show (0 + l.length) * 24 ≤ _; omega) hn.size (fun v1 w1 o1 hgr _ hb1 => ?_); rw [List.nil_append] at o1) | fail)
    go_ret
    exact ⟨_, rfl, o1, hn.trans hb1⟩
theorem OwnE.one {L : El Try.prog CE} {w : World} {base : Nat} {v : Value} {l : List CE} (h : OwnE L w base v l) : v.oneCell' = true := by
  obtain ⟨A, cap, rfl, _⟩ := h.arg
  rfl
theorem ArgE.one {L : El Try.prog CE} {w : World} {v : Value} {l : List CE} (h : ArgE L w v l) : v.oneCell' = true := by
  obtain ⟨A, cap, rfl, _⟩ := h
  rfl
set_option maxHeartbeats 4000000 in
theorem copy_any {c : Cv} {v : Value} (w : World) (h : ArgC w v c) (hn : c.outs.length ≤ 1099511627776) (hm : c.held.length ≤ 1099511627776) :
    Calls Try.prog 14 #[v] w fun e w' => ∃ u, e = .returned u ∧ OwnC w' w.heap.size u c ∧ Below w.heap.size w w' := by
  obtain ⟨vo, vi, rfl, ho, hi⟩ := h
  have HO := Lib.hid ho
  have HI := Lib.hid hi
  have HN := Lib.hid hn
  have HM := Lib.hid hm
  have hb : Below w.heap.size w ((w.alloc (.cells (cvA c vo vi) 26)).alloc (.cells cvZ 26)) := ((Below.refl _ _).alloc (Nat.le_refl _) _).alloc (by simp) _
  have mb := (Blk.new w (cvA c vo vi) 26).alloc (.cells cvZ 26)
  have mr := Blk.new (w.alloc (.cells (cvA c vo vi) 26)) cvZ 26
  rw [show (w.alloc (.cells (cvA c vo vi) 26)).heap.size = w.heap.size + 1 by simp] at mr
  have hsz : ((w.alloc (.cells (cvA c vo vi) 26)).alloc (.cells cvZ 26)).heap.size = w.heap.size + 2 := by simp
  have o0 := OwnE.empty (L := outEl) ((w.alloc (.cells (cvA c vo vi) 26)).alloc (.cells cvZ 26)) (Nat.le_of_eq hsz.symm)
  have hb3 := hb.alloc hb.size (.cells #[] 39)
  replace mb := mb.alloc (.cells #[] 39)
  replace mr := mr.alloc (.cells #[] 39)
  have hs3 : w.heap.size + 2 ≤ (((w.alloc (.cells (cvA c vo vi) 26)).alloc (.cells cvZ 26)).alloc (.cells #[] 39)).heap.size := by simp
  rw [hsz] at o0
  have OO := Lib.hid o0
  clear ho hi hn hm hsz o0
  unfold cvA cvZ at *
  go_enter Try.func14, Try.ntmps14
  go_wp2_with (first
    | (at_builtin; refine wpList_appE outEl rfl _ _ rfl (w.heap.size + 2) _ [] rfl OO.out vo c.outs rfl (HO.out.below hb3) (by have := HN.out; show (0 + c.outs.length) * 112 ≤ _; omega) hs3 (fun v4 w4 o4 _ _ hb4 => ?_); rw [List.nil_append] at o4; obtain ⟨G4, p4, rfl, -⟩ := id o4.arg; replace hb3 := hb3.trans (hb4.mono (by omega)); replace mb := mb.below hb4 (by omega); replace mr := mr.below hb4 (by omega); have hs4 := Nat.le_trans hs3 hb4.size; clear hb4 OO hs3; have pb := mb.cell 1; have fb := mb.frozen 1; replace mb : Blk (w4.setCell ⟨w.heap.size, 1, none⟩ (.slice G4 c.outs.length p4)) w.heap.size #[.int .u32 (wb c.nx), .slice G4 c.outs.length p4, .int .i64 c.turn, .int .u32 (wb c.dl), vi] 26 := mb.set 1 _; replace mr := mr.farAt (by omega) 1 (.slice G4 c.outs.length p4) (g' := w.heap.size); replace hb3 := below_setCell hb3 (Nat.le_refl w.heap.size) 1 (.slice G4 c.outs.length p4); have L4 := o4.lt; replace o4 := o4.upd ((Upd.refl _ _).setCell 1 (.slice G4 c.outs.length p4)) (show w.heap.size < w.heap.size + 2 by omega); have o5 := OwnE.empty (L := inEl) (w4.setCell ⟨w.heap.size, 1, none⟩ (.slice G4 c.outs.length p4)) (base := w4.heap.size) (by simp [World.setCell]); rw [show (w4.setCell ⟨w.heap.size, 1, none⟩ (.slice G4 c.outs.length p4)).heap.size = w4.heap.size by simp [World.setCell]] at o5; have hal : Below (w4.setCell ⟨w.heap.size, 1, none⟩ (.slice G4 c.outs.length p4)).heap.size (w4.setCell ⟨w.heap.size, 1, none⟩ (.slice G4 c.outs.length p4)) ((w4.setCell ⟨w.heap.size, 1, none⟩ (.slice G4 c.outs.length p4)).alloc (.cells #[] 55)) := (Below.refl _ _).alloc (Nat.le_refl _) _; replace mb := mb.below hal mb.lt; replace mr := mr.below hal mr.lt; replace o4 := o4.below hal; replace hb3 := hb3.trans (hal.mono hb3.size); clear hal; have pc := mb.cell 4; have OI := Lib.hid (And.intro o5 (And.intro o4 L4)); clear o5 o4 L4)
    | (at_builtin; refine wpList_appE inEl rfl _ _ rfl w4.heap.size (.slice (some ⟨w4.heap.size, 0, none⟩) 0 0) [] rfl OI.out.1 vi c.held rfl (HI.out.below hb3) (by have := HM.out; show (0 + c.held.length) * 24 ≤ _; omega) (by simp [World.setCell]) (fun v6 w6 o6 hgr _ hb6 => ?_); rw [List.nil_append] at o6; obtain ⟨G6, p6, rfl, -⟩ := id o6.arg; have o4 := OI.out.2.1.grown hgr (fun k hk e => by have := (OI.out.2.2 k hk).2; simp only [Value.ownBlock, Option.some.injEq] at e; omega); replace hb3 := hb3.trans (hb6.mono (by omega)); replace mb := mb.below hb6 (by omega); replace mr := mr.below hb6 (by omega); clear hgr hb6 OI pb fb pc; have pb := mb.cell 4; have fb := mb.frozen 4; replace mb : Blk (w6.setCell ⟨w.heap.size, 4, none⟩ (.slice G6 c.held.length p6)) w.heap.size (cvA c (.slice G4 c.outs.length p4) (.slice G6 c.held.length p6)) 26 := mb.set 4 _; replace mr := mr.farAt (by omega) 4 (.slice G6 c.held.length p6) (g' := w.heap.size); replace hb3 := below_setCell hb3 (Nat.le_refl w.heap.size) 4 (.slice G6 c.held.length p6); replace o4 := o4.upd ((Upd.refl _ _).setCell 4 (.slice G6 c.held.length p6)) (show w.heap.size < w.heap.size + 2 by omega); replace o6 := o6.upd ((Upd.refl _ _).setCell 4 (.slice G6 c.held.length p6)) (show w.heap.size < w4.heap.size by omega))
    | (refine wpList_load_row rfl 26 _ rfl w.heap.size rfl 26 (cvA c (.slice G4 c.outs.length p4) (.slice G6 c.held.length p6)) _ _ mb Try.underlying26 rfl (by exact sizeCv) ?_)
    | (refine wpList_store_row rfl 26 _ _ rfl (w.heap.size + 1) (cvA c (.slice G4 c.outs.length p4) (.slice G6 c.held.length p6)) rfl rfl 26 _ mr (by exact sizeCv) (by simp [cvA]) (by simp [cvA, Value.oneCell']) ?_; replace o4 := o4.upd ((Upd.refl _ _).setRow (cvA c (.slice G4 c.outs.length p4) (.slice G6 c.held.length p6))) (show w.heap.size + 1 < w.heap.size + 2 by omega); replace o6 := o6.upd ((Upd.refl _ _).setRow (cvA c (.slice G4 c.outs.length p4) (.slice G6 c.held.length p6))) (show w.heap.size + 1 < w4.heap.size by omega); replace hb3 := below_setRow hb3 (show w.heap.size ≤ w.heap.size + 1 by omega) (cvA c (.slice G4 c.outs.length p4) (.slice G6 c.held.length p6)); replace mr := mr.row (cvA c (.slice G4 c.outs.length p4) (.slice G6 c.held.length p6)))
    | fail)
  refine bodyPost_ret (results_cell1 rfl _ _ (w.heap.size + 1) 26 _ _ _ rfl mr Try.underlying26 rfl (by exact sizeCv)) rfl ?_
  exact ⟨_, rfl, ⟨_, _, rfl, o4.base (by omega), o6.base (by omega)⟩, hb3⟩
end Go.Proofs.Ytjghhbollgggoaa
