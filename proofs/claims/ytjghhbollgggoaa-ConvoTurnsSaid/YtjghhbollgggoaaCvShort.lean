/- The law's short: a conversation that can be played in time, with room behind its lists (printed by genshort.py). -/
import Derived.Test.YtjghhbollgggoaaCvTurn
namespace Go.Proofs.Ytjghhbollgggoaa
open Go.RowKit
set_option linter.unusedVariables false
set_option linter.unusedSimpArgs false
attribute [local go_sem] min_imin
/-- A slice of one element, in a block of its own. -/
def SoloE (L : El Try.prog CE) (w : World) (v : Value) (x : CE) : Prop := ∃ g, v = .slice (some ⟨g, 0, none⟩) 1 1 ∧ Blk w g (L.f x).toArray L.e
theorem SoloE.below {L : El Try.prog CE} {w w' : World} {v : Value} {x : CE} (h : SoloE L w v x) (hb : Below w.heap.size w w') : SoloE L w' v x :=
  let ⟨g, h1, h2⟩ := h
  ⟨g, h1, h2.below hb h2.lt⟩
theorem SoloE.new (L : El Try.prog CE) (w : World) (x : CE) : SoloE L (w.alloc (.cells (L.f x).toArray L.e)) (.slice (some ⟨w.heap.size, 0, none⟩) 1 1) x := ⟨_, rfl, Blk.new _ _ _⟩
theorem SoloE.arg {L : El Try.prog CE} {w : World} {v : Value} {x : CE} (h : SoloE L w v x) (hx : L.ok x) : ArgE L w v [x] := by
  obtain ⟨g, rfl, hB⟩ := h
  exact (OwnE.ofBlk hB (Nat.zero_le _) hx).arg
/-- .. apart from u's block. -/
def SoloA (L : El Try.prog CE) (w : World) (v u : Value) (x : CE) : Prop := ∃ g, v = .slice (some ⟨g, 0, none⟩) 1 1 ∧ Blk w g (L.f x).toArray L.e ∧ some g ≠ u.ownBlock
theorem SoloA.below {L : El Try.prog CE} {w w' : World} {v u : Value} {x : CE} (h : SoloA L w v u x) (hb : Below w.heap.size w w') : SoloA L w' v u x :=
  let ⟨g, h1, h2, h3⟩ := h
  ⟨g, h1, h2.below hb h2.lt, h3⟩
theorem SoloA.new {L : El Try.prog CE} {w : World} {base : Nat} {u : Value} {l : List CE} (h : OwnE L w base u l) (x : CE) : SoloA L (w.alloc (.cells (L.f x).toArray L.e)) (.slice (some ⟨w.heap.size, 0, none⟩) 1 1) u x :=
  ⟨_, rfl, Blk.new _ _ _, fun e => by have := (h.lt _ e.symm).2; omega⟩
theorem SoloE.apart {L : El Try.prog CE} {w w' : World} {v : Value} {x : CE} {n c : Nat} (h : SoloE L w v x) (hb : Below w.heap.size w w') : SoloA L w' v (.slice (some ⟨w.heap.size, 0, none⟩) n c) x :=
  let ⟨g, h1, h2⟩ := h
  ⟨g, h1, h2.below hb h2.lt, fun e => by have := h2.lt; simp [Value.ownBlock] at e; omega⟩
theorem SoloA.grown {L : El Try.prog CE} {w w' : World} {v u : Value} {x : CE} (h : SoloA L w v u x) (hg : w.grownBy w' u.ownBlock) : SoloE L w' v x :=
  let ⟨g, h1, h2, h3⟩ := h
  ⟨g, h1, (hg.block g h2.lt h3).trans h2⟩
def roomE (L : El Try.prog CE) : Array Value := madeCells L.z.cells (12 * L.size)
theorem run_make_E (L : El Try.prog CE) (hb : L.bytes ≤ 1000) (w : World) : (Instr.makeSlice L.t (.int .i64 0) (.int .i64 12)).run Try.prog w = .ok (.slice (some ⟨w.heap.size, 0, none⟩) 0 12) (w.alloc (.cells (roomE L) L.e)) := by
  obtain ⟨i, hi, hz, hs, hbb⟩ := info_parts L.T.hi
  have := run_make (P := Try.prog) w L.t L.e i _ L.T.ht hi hz .i64 .i64 0 12 (by omega) (by omega) (by rw [hbb]; omega) (by omega)
  rw [hs, show (0 : Int).toNat = 0 from rfl, show (12 : Int).toNat = 12 from rfl] at this
  exact this
theorem ArgE.take {L : El Try.prog CE} {w : World} {A : Option Addr} {n cap : Nat} {l : List CE} (h : ArgE L w (.slice A n cap) l) (k : Nat) (hk : k ≤ n) : ArgE L w (.slice A k cap) (l.take k) := by
  obtain ⟨A', cap', he, hc, hok, hC⟩ := h
  cases he
  refine ⟨A, cap, by rw [List.length_take, Nat.min_eq_left hk], by rw [List.length_take]; omega, fun x hx => hok x (List.mem_of_mem_take hx), fun j u hu => hC j u ?_⟩
  have e : l.flatMap L.f = (l.take k).flatMap L.f ++ (l.drop k).flatMap L.f := by rw [← List.flatMap_append, List.take_append_drop]
  rw [e, List.getElem?_append_left (List.getElem?_eq_some_iff.1 hu).1]
  exact hu
theorem ArgE.init {L : El Try.prog CE} {w : World} {A : Option Addr} {n cap : Nat} {l : List CE} {x : CE} (h : ArgE L w (.slice A (n + 1) cap) (l ++ [x])) (hn : l.length = n) : ArgE L w (.slice A n cap) l := by
  have := h.take n (by omega)
  rwa [List.take_append_of_le_length (by omega), List.take_of_length_le (by omega)] at this
def o77 : CE := (77, z105)
def i77 : CE := (77, [])
theorem build_o77 (w : World) : (Instr.build 39 #[(0, .int .u32 77)]).run Try.prog w = .ok (.agg (outC o77).toArray) w := by kernel_rfl
theorem build_i77 (w : World) : (Instr.build 55 #[(0, .int .u32 77)]).run Try.prog w = .ok (.agg (inC i77).toArray) w := by kernel_rfl
/-- A conversation whose lists have room behind them, with an element laid there. -/
def RoomC (w : World) (base : Nat) (u : Value) (c : Cv) : Prop := ∃ vo vi, u = .agg (cvA c vo vi) ∧
  (∃ g p, vo = .slice (some ⟨g, 0, none⟩) c.outs.length p ∧ OwnE outEl w base (.slice (some ⟨g, 0, none⟩) (c.outs.length + 1) p) (c.outs ++ [o77])) ∧
  (∃ g p, vi = .slice (some ⟨g, 0, none⟩) c.held.length p ∧ OwnE inEl w base (.slice (some ⟨g, 0, none⟩) (c.held.length + 1) p) (c.held ++ [i77]))
theorem RoomC.arg {w : World} {base : Nat} {u : Value} {c : Cv} (h : RoomC w base u c) : ArgC w u c := by
  obtain ⟨vo, vi, rfl, ⟨g, p, rfl, h1⟩, ⟨g', p', rfl, h2⟩⟩ := h
  exact ⟨_, _, rfl, h1.arg.init rfl, h2.arg.init rfl⟩
theorem RoomC.below {w w' : World} {base : Nat} {u : Value} {c : Cv} (h : RoomC w base u c) (hb : Below w.heap.size w w') : RoomC w' base u c := by
  obtain ⟨vo, vi, rfl, ⟨g, p, rfl, h1⟩, ⟨g', p', rfl, h2⟩⟩ := h
  exact ⟨_, _, rfl, ⟨g, p, rfl, h1.below hb⟩, ⟨g', p', rfl, h2.below hb⟩⟩
theorem RoomC.base {w : World} {base base' : Nat} {u : Value} {c : Cv} (h : RoomC w base u c) (hb : base' ≤ base) : RoomC w base' u c := by
  obtain ⟨vo, vi, rfl, ⟨g, p, rfl, h1⟩, ⟨g', p', rfl, h2⟩⟩ := h
  exact ⟨_, _, rfl, ⟨g, p, rfl, h1.base hb⟩, ⟨g', p', rfl, h2.base hb⟩⟩
def shortC (c : Cv) : Cv := ⟨c.nx, c.outs.take 8, c.turn, c.dl, c.held.take 8⟩
theorem own_form1 {L : El Try.prog CE} {w : World} {base : Nat} {v : Value} {l : List CE} {x : CE} (h : OwnE L w base v (l ++ [x])) : ∃ g p, v = .slice (some ⟨g, 0, none⟩) (l.length + 1) p ∧ l.length + 1 ≤ p ∧ base ≤ g := by
  rcases h.2.2 with ⟨rfl, h0⟩ | ⟨g, cap, cur, rfl, hg, _, hle, _⟩
  · simp at h0
  · exact ⟨g, cap, by simp, by simpa using hle, hg⟩
theorem own_apart2 {w : World} {b b' : Nat} {v v' : Value} {l l' : List CE} (h : OwnE outEl w b v l) (h' : OwnE inEl w b' v' l') : ∀ k, v.ownBlock = some k → v'.ownBlock ≠ some k := fun k h1 h2 => own_apart h h' k h2 h1
set_option maxRecDepth 100000 in
set_option maxHeartbeats 16000000 in
theorem short_any {c : Cv} {v : Value} (w : World) (h : ArgC w v c) (hn : c.outs.length ≤ 9223372036854775807) (hm : c.held.length ≤ 9223372036854775807) :
    Calls Try.prog 13 #[v] w fun e w' => ∃ u, e = .returned u ∧ RoomC w' w.heap.size u (shortC c) ∧ Below w.heap.size w w' := by
  obtain ⟨vo, vi, rfl, ho, hi⟩ := h
  obtain ⟨A, p, rfl, hcp, -⟩ := id ho
  obtain ⟨A3, p3, rfl, hcp3, -⟩ := id hi
  obtain ⟨k, hk⟩ : ∃ k, k = min c.outs.length 8 := ⟨_, rfl⟩
  obtain ⟨j, hj⟩ : ∃ j, j = min c.held.length 8 := ⟨_, rfl⟩
  have ho2 := ho.take k (by omega)
  have hi2 := hi.take j (by omega)
  obtain ⟨lO, hlO⟩ : ∃ x, x = c.outs.take k := ⟨_, rfl⟩
  obtain ⟨lI, hlI⟩ : ∃ x, x = c.held.take j := ⟨_, rfl⟩
  rw [← hlO] at ho2
  rw [← hlI] at hi2
  have HO := Lib.hid ho2
  have HI := Lib.hid hi2
  have HOL : Hid (lO.length = k) := by show _ = _; rw [hlO, List.length_take]; omega
  have HIL : Hid (lI.length = j) := by show _ = _; rw [hlI, List.length_take]; omega
  have HEO : Hid ((shortC c).outs = lO) := by
    show c.outs.take 8 = lO
    rw [hlO, hk]
    rcases Nat.le_total c.outs.length 8 with h | h
    · rw [Nat.min_eq_left h, List.take_of_length_le h, List.take_of_length_le (Nat.le_refl _)]
    · rw [Nat.min_eq_right h]
  have HEI : Hid ((shortC c).held = lI) := by
    show c.held.take 8 = lI
    rw [hlI, hj]
    rcases Nat.le_total c.held.length 8 with h | h
    · rw [Nat.min_eq_left h, List.take_of_length_le h, List.take_of_length_le (Nat.le_refl _)]
    · rw [Nat.min_eq_right h]
  have HLO : Hid ((shortC c).outs.length = k) := by show _ = _; rw [HEO.out, HOL.out]
  have HLI : Hid ((shortC c).held.length = j) := by show _ = _; rw [HEI.out, HIL.out]
  have hk8 : k ≤ 8 := by omega
  have hj8 : j ≤ 8 := by omega
  have hkn : k ≤ c.outs.length := by omega
  have hjn : j ≤ c.held.length := by omega
  have him1 : imin (c.outs.length : Int) 8 = (k : Int) := by unfold imin; split <;> omega
  have him2 : imin (c.held.length : Int) 8 = (j : Int) := by unfold imin; split <;> omega
  have HFIN : Hid (∀ (va vb : Value), Value.agg #[.int .u32 (wb c.nx), va, .int .i64 c.turn, .int .u32 (wb c.dl), vb] = .agg (cvA (shortC c) va vb)) := fun _ _ => rfl
  obtain ⟨n, hnn⟩ : ∃ n, n = c.outs.length := ⟨_, rfl⟩
  obtain ⟨m, hmm⟩ : ∃ m, m = c.held.length := ⟨_, rfl⟩
  simp only [cvA]
  rw [← hnn] at hcp hkn him1 hn ⊢
  rw [← hmm] at hcp3 hjn him2 hm ⊢
  have hsl1 := fun wx => run_slice_to (P := Try.prog) outT A n p (k : Int) .i64 (by omega) (by omega) wx
  rw [cutA_zero, Int.toNat_natCast] at hsl1
  have hsl3 := fun wx => run_slice_to (P := Try.prog) inT A3 m p3 (j : Int) .i64 (by omega) (by omega) wx
  rw [cutA_zero, Int.toNat_natCast] at hsl3
  have hz77 : Try.zeroCells39.setIfInBounds 0 (.int .u32 77) = (outC o77).toArray := by kernel_rfl
  have hmk1 := fun wx => run_make_E outEl (by decide) wx
  have hmk2 := fun wx => run_make_E inEl (by decide) wx
  have hmk1' : ∀ wx : World, (Instr.makeSlice 23 (.int .i64 0) (.int .i64 12)).run Try.prog wx = .ok (.slice (some ⟨wx.heap.size, 0, none⟩) 0 12) (wx.alloc (.cells (roomE outEl) 39)) := hmk1
  have hmk2' : ∀ wx : World, (Instr.makeSlice 24 (.int .i64 0) (.int .i64 12)).run Try.prog wx = .ok (.slice (some ⟨wx.heap.size, 0, none⟩) 0 12) (wx.alloc (.cells (roomE inEl) 55)) := hmk2
  clear hmk1 hmk2 ho hi ho2 hi2 hlO hlI hk hj hnn hmm hcp hcp3 hn hm
  have hb : Below w.heap.size w ((w.alloc (.cells #[.int .u32 (wb c.nx), .slice A n p, .int .i64 c.turn, .int .u32 (wb c.dl), .slice A3 m p3] 26)).alloc (.cells #[.int .u32 0, .slice none 0 0, .int .i64 0, .int .u32 0, .slice none 0 0] 26)) := ((Below.refl _ _).alloc (Nat.le_refl _) _).alloc (by simp) _
  have mb := (Blk.new w #[.int .u32 (wb c.nx), .slice A n p, .int .i64 c.turn, .int .u32 (wb c.dl), .slice A3 m p3] 26).alloc (.cells #[.int .u32 0, .slice none 0 0, .int .i64 0, .int .u32 0, .slice none 0 0] 26)
  have mr := Blk.new (w.alloc (.cells #[.int .u32 (wb c.nx), .slice A n p, .int .i64 c.turn, .int .u32 (wb c.dl), .slice A3 m p3] 26)) #[.int .u32 0, .slice none 0 0, .int .i64 0, .int .u32 0, .slice none 0 0] 26
  rw [show (w.alloc (.cells #[.int .u32 (wb c.nx), .slice A n p, .int .i64 c.turn, .int .u32 (wb c.dl), .slice A3 m p3] 26)).heap.size = w.heap.size + 1 by simp] at mr
  have hs0 : (w.heap.size + 2) ≤ ((w.alloc (.cells #[.int .u32 (wb c.nx), .slice A n p, .int .i64 c.turn, .int .u32 (wb c.dl), .slice A3 m p3] 26)).alloc (.cells #[.int .u32 0, .slice none 0 0, .int .i64 0, .int .u32 0, .slice none 0 0] 26)).heap.size := by simp
  go_enter Try.func13, Try.ntmps13
  go_wp2_with fail
  refine mix_plan (fun w' => Blk w' w.heap.size #[.int .u32 (wb c.nx), .slice A n p, .int .i64 c.turn, .int .u32 (wb c.dl), .slice A3 m p3] 26) (.step 1 (.step 2 (.step 3 (.step 4 (.step 5 (.step 6 (.step 7 (.step 9 (.step 12 (.step 13 (.step 14 (.step 15 (.fork 0 10 (.fork 8 10 (.step 10 (.step 11 (.step 16 (.step 17 (.step 18 (.done)))))) (.step 8 (.step 11 (.step 16 (.step 17 (.step 18 (.done))))))) (.step 0 (.step 8 (.step 11 (.step 16 (.step 17 (.step 18 (.done)))))))))))))))))))) [0, 8, 10, 11, 18] [2, 4, 13] [18] (by kernel_rfl) (by kernel_rfl) (fun d _ _ _ _ h => by cases d <;> exact h) mb.drew ?_
  replace mb := mb.drew
  replace mr := mr.drew
  replace hb := hb.drew
  have hs : (w.heap.size + 2) ≤ (World.drew ((w.alloc (.cells #[.int .u32 (wb c.nx), .slice A n p, .int .i64 c.turn, .int .u32 (wb c.dl), .slice A3 m p3] 26)).alloc (.cells #[.int .u32 0, .slice none 0 0, .int .i64 0, .int .u32 0, .slice none 0 0] 26))).heap.size := hs0
  clear hs0
  generalize World.drew ((w.alloc (.cells #[.int .u32 (wb c.nx), .slice A n p, .int .i64 c.turn, .int .u32 (wb c.dl), .slice A3 m p3] 26)).alloc (.cells #[.int .u32 0, .slice none 0 0, .int .i64 0, .int .u32 0, .slice none 0 0] 26)) = x0 at *
  repeat (refine mix_pure rfl rfl (fun K hK => ?_); go_simp; refine hK _ ?_; clear hK K)
  apply share3 (A := fun v4 v7 v9 wx => Below w.heap.size w wx ∧ Blk wx w.heap.size #[.int .u32 (wb c.nx), .slice A n p, .int .i64 c.turn, .int .u32 (wb c.dl), .slice A3 m p3] 26 ∧ Blk wx (w.heap.size + 1) #[.int .u32 0, .slice none 0 0, .int .i64 0, .int .u32 0, .slice none 0 0] 26 ∧ (w.heap.size + 2) ≤ wx.heap.size ∧ SoloE outEl wx v9 o77 ∧ OwnE outEl wx (w.heap.size + 2) v7 lO)
  · intro hS0_2_4_8_10_13
    apply share2 (A := fun v4 v9 wx => Below w.heap.size w wx ∧ Blk wx w.heap.size #[.int .u32 (wb c.nx), .slice A n p, .int .i64 c.turn, .int .u32 (wb c.dl), .slice A3 m p3] 26 ∧ Blk wx (w.heap.size + 1) #[.int .u32 0, .slice none 0 0, .int .i64 0, .int .u32 0, .slice none 0 0] 26 ∧ (w.heap.size + 2) ≤ wx.heap.size ∧ OwnE outEl wx (w.heap.size + 2) v4 [] ∧ SoloA outEl wx v9 v4 o77)
    · intro hS0_2_4_10_13
      refine mix_read (.slice A n p) rfl rfl rfl rfl (fun w' hS => ?_) ?_
      · have k5 : w'.cell? ⟨w.heap.size, 1, none⟩ = some (.slice A n p) := hS.cell 1
        go_simp
      repeat (refine mix_pure rfl rfl (fun K hK => ?_); go_simp; refine hK _ ?_; clear hK K)
      refine mix_read (.slice A n p) rfl rfl rfl rfl (fun w' hS => ?_) ?_
      · have k5 : w'.cell? ⟨w.heap.size, 1, none⟩ = some (.slice A n p) := hS.cell 1
        go_simp
      repeat (refine mix_pure rfl rfl (fun K hK => ?_); go_simp; refine hK _ ?_; clear hK K)
      refine mix_read (.slice A n p) rfl rfl rfl rfl (fun w' hS => ?_) ?_
      · have k5 : w'.cell? ⟨w.heap.size, 1, none⟩ = some (.slice A n p) := hS.cell 1
        go_simp
      repeat (refine mix_pure rfl rfl (fun K hK => ?_); go_simp; refine hK _ ?_; clear hK K)
      refine mix_fork rfl rfl (fun K hK => ?_) (fun K hK => ?_)
      · go_simp
        have hn : Below x0.heap.size x0 (x0.alloc (.cells (roomE outEl) 39)) := (Below.refl _ _).alloc (Nat.le_refl _) _
        have o4 : OwnE outEl (x0.alloc (.cells (roomE outEl) 39)) (w.heap.size + 2) (.slice (some ⟨x0.heap.size, 0, none⟩) 0 12) [] := OwnE.made _ _ _ hs (by unfold maxLen; omega) (by simp [roomE, madeCells])
        generalize x0.alloc (.cells (roomE outEl) 39) = x1 at *
        generalize Value.slice (some ⟨x0.heap.size, 0, none⟩) 0 12 = v4 at *
        replace hb := hb.trans (hn.mono hb.size)
        replace mb := mb.below hn mb.lt
        replace mr := mr.below hn mr.lt
        replace hs := Nat.le_trans hs hn.size
        refine hK _ _ (fun _ _ => mb) ?_
        clear hK K hn
        refine mix_fork rfl rfl (fun K hK => ?_) (fun K hK => ?_)
        · skip
          refine step_appE outEl rfl _ _ rfl (w.heap.size + 2) v4 [] rfl o4 (.slice A k p) lO rfl (HO.out.below hb) (by have := HOL.out; show (0 + lO.length) * 112 ≤ _; omega) hs (fun v7 x2 o7 hgr _ hb7 => ?_)
          rw [List.nil_append] at o7
          replace mb := mb.below hb7 (by omega)
          replace mr := mr.below hb7 (by omega)
          replace hb := hb.trans (hb7.mono (by omega))
          replace hs := Nat.le_trans hs hb7.size
          clear hb7 hgr
          refine hK _ _ (fun _ _ => mb) ?_
          clear hK K
          try clear o4
          refine mix_eff rfl rfl (fun K hK => ?_)
          refine step_bslice_one outT (by omega) zeroOut rfl _ rfl (outC o77).toArray rfl rfl ?_
          skip
          have hn : Below x2.heap.size x2 (x2.alloc (.cells (outC o77).toArray 39)) := (Below.refl _ _).alloc (Nat.le_refl _) _
          have t9 : SoloE outEl (x2.alloc (.cells (outC o77).toArray 39)) (.slice (some ⟨x2.heap.size, 0, none⟩) 1 1) o77 := SoloE.new outEl _ _
          generalize (x2.alloc (.cells (outC o77).toArray 39)) = x3 at *
          generalize Value.slice (some ⟨x2.heap.size, 0, none⟩) 1 1 = v9 at *
          replace hb := hb.trans (hn.mono hb.size)
          replace mb := mb.below hn mb.lt
          replace mr := mr.below hn mr.lt
          replace hs := Nat.le_trans hs hn.size
          replace o7 := o7.below hn
          refine hK _ _ (fun _ _ => mb) ?_
          clear hK K hn
          exact hS0_2_4_8_10_13 v4 v7 v9 x3 ⟨hb, mb, mr, hs, t9, o7⟩
        · refine step_bslice_one outT (by omega) zeroOut rfl _ rfl (outC o77).toArray rfl rfl ?_
          skip
          have hn : Below x1.heap.size x1 (x1.alloc (.cells (outC o77).toArray 39)) := (Below.refl _ _).alloc (Nat.le_refl _) _
          have s9 : SoloA outEl (x1.alloc (.cells (outC o77).toArray 39)) (.slice (some ⟨x1.heap.size, 0, none⟩) 1 1) v4 o77 := SoloA.new o4 _
          generalize (x1.alloc (.cells (outC o77).toArray 39)) = x4 at *
          generalize Value.slice (some ⟨x1.heap.size, 0, none⟩) 1 1 = v9 at *
          replace hb := hb.trans (hn.mono hb.size)
          replace mb := mb.below hn mb.lt
          replace mr := mr.below hn mr.lt
          replace hs := Nat.le_trans hs hn.size
          replace o4 := o4.below hn
          refine hK _ _ (fun _ _ => mb) ?_
          clear hK K hn
          exact hS0_2_4_10_13 v4 v9 x4 ⟨hb, mb, mr, hs, o4, s9⟩
      · refine step_bslice_one outT (by omega) zeroOut rfl _ rfl (outC o77).toArray rfl rfl ?_
        skip
        have hn : Below x0.heap.size x0 (x0.alloc (.cells (outC o77).toArray 39)) := (Below.refl _ _).alloc (Nat.le_refl _) _
        have e9 : SoloE outEl (x0.alloc (.cells (outC o77).toArray 39)) (.slice (some ⟨x0.heap.size, 0, none⟩) 1 1) o77 := SoloE.new outEl _ _
        generalize (x0.alloc (.cells (outC o77).toArray 39)) = x5 at *
        generalize Value.slice (some ⟨x0.heap.size, 0, none⟩) 1 1 = v9 at *
        replace hb := hb.trans (hn.mono hb.size)
        replace mb := mb.below hn mb.lt
        replace mr := mr.below hn mr.lt
        replace hs := Nat.le_trans hs hn.size
        refine hK _ _ (fun _ _ => mb) ?_
        clear hK K hn
        refine mix_eff rfl rfl (fun K hK => ?_)
        go_simp
        have hn : Below x5.heap.size x5 (x5.alloc (.cells (roomE outEl) 39)) := (Below.refl _ _).alloc (Nat.le_refl _) _
        have o4 : OwnE outEl (x5.alloc (.cells (roomE outEl) 39)) (w.heap.size + 2) (.slice (some ⟨x5.heap.size, 0, none⟩) 0 12) [] := OwnE.made _ _ _ hs (by unfold maxLen; omega) (by simp [roomE, madeCells])
        have s9 : SoloA outEl (x5.alloc (.cells (roomE outEl) 39)) v9 (.slice (some ⟨x5.heap.size, 0, none⟩) 0 12) o77 := e9.apart hn
        clear e9
        generalize x5.alloc (.cells (roomE outEl) 39) = x6 at *
        generalize Value.slice (some ⟨x5.heap.size, 0, none⟩) 0 12 = v4 at *
        replace hb := hb.trans (hn.mono hb.size)
        replace mb := mb.below hn mb.lt
        replace mr := mr.below hn mr.lt
        replace hs := Nat.le_trans hs hn.size
        refine hK _ _ (fun _ _ => mb) ?_
        clear hK K hn
        try clear e9
        exact hS0_2_4_10_13 v4 v9 x6 ⟨hb, mb, mr, hs, o4, s9⟩
    · intro v4 v9 wx hA
      obtain ⟨hb, mb, mr, hs, o4, s9⟩ := hA
      refine mix_eff rfl rfl (fun K hK => ?_)
      skip
      refine step_appE outEl rfl _ _ rfl (w.heap.size + 2) v4 [] rfl o4 (.slice A k p) lO rfl (HO.out.below hb) (by have := HOL.out; show (0 + lO.length) * 112 ≤ _; omega) hs (fun v7 x7 o7 hgr _ hb7 => ?_)
      rw [List.nil_append] at o7
      replace mb := mb.below hb7 (by omega)
      replace mr := mr.below hb7 (by omega)
      replace hb := hb.trans (hb7.mono (by omega))
      replace hs := Nat.le_trans hs hb7.size
      have t9 := s9.grown hgr
      clear s9
      clear hb7 hgr
      refine hK _ _ (fun _ _ => mb) ?_
      clear hK K
      try clear o4 s9
      exact hS0_2_4_8_10_13 v4 v7 v9 x7 ⟨hb, mb, mr, hs, t9, o7⟩
  · intro v4 v7 v9 wx hA
    obtain ⟨hb, mb, mr, hs, t9, o7⟩ := hA
    refine mix_eff rfl rfl (fun K hK => ?_)
    skip
    refine step_appE outEl rfl _ _ rfl (w.heap.size + 2) v7 lO rfl o7 v9 [o77] rfl (t9.arg rfl) (by have := HOL.out; show (lO.length + 1) * 112 ≤ _; omega) hs (fun v10 x8 o10 hgr _ hb10 => ?_)
    replace mb := mb.below hb10 (by omega)
    replace mr := mr.below hb10 (by omega)
    replace hb := hb.trans (hb10.mono (by omega))
    replace hs := Nat.le_trans hs hb10.size
    clear hb10 hgr
    obtain ⟨gO, pO, rfl, hle, hge⟩ := own_form1 o10
    rw [HOL.out] at o10 hle ⊢
    have hsl2 := fun wx => run_slice_to (P := Try.prog) outT (some ⟨gO, 0, none⟩) (k + 1) pO (k : Int) .i64 (by omega) (by omega) wx
    rw [cutA_zero, Int.toNat_natCast] at hsl2
    refine hK _ _ (fun _ _ => mb) ?_
    clear hK K
    try clear t9 o7
    repeat (refine mix_pure rfl rfl (fun K hK => ?_); go_simp; refine hK _ ?_; clear hK K)
    have pb := mb.cell 1
    have fb := mb.frozen 1
    refine mix_ds rfl rfl rfl (fun K hK => ?_)
    go_simp
    refine hK _ _ ?_
    clear hK K pb fb
    refine mix_nil ?_
    replace mb : Blk (x8.setCell ⟨w.heap.size, 1, none⟩ (.slice (some ⟨gO, 0, none⟩) k pO)) w.heap.size #[.int .u32 (wb c.nx), .slice (some ⟨gO, 0, none⟩) k pO, .int .i64 c.turn, .int .u32 (wb c.dl), .slice A3 m p3] 26 := mb.set 1 _
    replace mr := mr.farAt (by omega) 1 (.slice (some ⟨gO, 0, none⟩) k pO) (g' := w.heap.size)
    replace hb := below_setCell hb (Nat.le_refl w.heap.size) 1 (.slice (some ⟨gO, 0, none⟩) k pO)
    replace o10 := o10.upd ((Upd.refl _ _).setCell 1 (.slice (some ⟨gO, 0, none⟩) k pO)) (show w.heap.size < w.heap.size + 2 by omega)
    replace hs : (w.heap.size + 2) ≤ (x8.setCell ⟨w.heap.size, 1, none⟩ (.slice (some ⟨gO, 0, none⟩) k pO)).heap.size := Nat.le_trans hs ((Upd.refl w.heap.size _).setCell 1 (.slice (some ⟨gO, 0, none⟩) k pO)).size
    generalize x8.setCell ⟨w.heap.size, 1, none⟩ (.slice (some ⟨gO, 0, none⟩) k pO) = y0 at *
    have oO := o10
    clear o10 hle hge hsl2
    go_wp2_with fail
    refine mix_plan (fun w' => Blk w' w.heap.size #[.int .u32 (wb c.nx), .slice (some ⟨gO, 0, none⟩) k pO, .int .i64 c.turn, .int .u32 (wb c.dl), .slice A3 m p3] 26) (.step 1 (.step 2 (.step 3 (.step 4 (.step 5 (.step 6 (.step 7 (.step 9 (.step 12 (.step 13 (.step 14 (.step 15 (.fork 0 10 (.fork 8 10 (.step 10 (.step 11 (.step 16 (.step 17 (.step 18 (.done)))))) (.step 8 (.step 11 (.step 16 (.step 17 (.step 18 (.done))))))) (.step 0 (.step 8 (.step 11 (.step 16 (.step 17 (.step 18 (.done)))))))))))))))))))) [0, 8, 10, 11, 18] [2, 4, 13] [18] (by kernel_rfl) (by kernel_rfl) (fun d _ _ _ _ h => by cases d <;> exact h) mb.drew ?_
    replace mb := mb.drew
    replace mr := mr.drew
    replace hb := hb.drew
    replace oO := oO.drew
    replace hs : (w.heap.size + 2) ≤ y0.drew.heap.size := hs
    generalize y0.drew = z0 at *
    repeat (refine mix_pure rfl rfl (fun K hK => ?_); go_simp; refine hK _ ?_; clear hK K)
    apply share3 (A := fun v4 v7 v9 wx => Below w.heap.size w wx ∧ Blk wx w.heap.size #[.int .u32 (wb c.nx), .slice (some ⟨gO, 0, none⟩) k pO, .int .i64 c.turn, .int .u32 (wb c.dl), .slice A3 m p3] 26 ∧ Blk wx (w.heap.size + 1) #[.int .u32 0, .slice none 0 0, .int .i64 0, .int .u32 0, .slice none 0 0] 26 ∧ (w.heap.size + 2) ≤ wx.heap.size ∧ SoloE inEl wx v9 i77 ∧ OwnE inEl wx (w.heap.size + 2) v7 lI ∧ OwnE outEl wx (w.heap.size + 2) (.slice (some ⟨gO, 0, none⟩) (k + 1) pO) (lO ++ [o77]))
    · intro hS0_2_4_8_10_13
      apply share2 (A := fun v4 v9 wx => Below w.heap.size w wx ∧ Blk wx w.heap.size #[.int .u32 (wb c.nx), .slice (some ⟨gO, 0, none⟩) k pO, .int .i64 c.turn, .int .u32 (wb c.dl), .slice A3 m p3] 26 ∧ Blk wx (w.heap.size + 1) #[.int .u32 0, .slice none 0 0, .int .i64 0, .int .u32 0, .slice none 0 0] 26 ∧ (w.heap.size + 2) ≤ wx.heap.size ∧ OwnE inEl wx (w.heap.size + 2) v4 [] ∧ SoloA inEl wx v9 v4 i77 ∧ OwnE outEl wx (w.heap.size + 2) (.slice (some ⟨gO, 0, none⟩) (k + 1) pO) (lO ++ [o77]))
      · intro hS0_2_4_10_13
        refine mix_read (.slice A3 m p3) rfl rfl rfl rfl (fun w' hS => ?_) ?_
        · have k5 : w'.cell? ⟨w.heap.size, 4, none⟩ = some (.slice A3 m p3) := hS.cell 4
          go_simp
        repeat (refine mix_pure rfl rfl (fun K hK => ?_); go_simp; refine hK _ ?_; clear hK K)
        refine mix_read (.slice A3 m p3) rfl rfl rfl rfl (fun w' hS => ?_) ?_
        · have k5 : w'.cell? ⟨w.heap.size, 4, none⟩ = some (.slice A3 m p3) := hS.cell 4
          go_simp
        repeat (refine mix_pure rfl rfl (fun K hK => ?_); go_simp; refine hK _ ?_; clear hK K)
        refine mix_read (.slice A3 m p3) rfl rfl rfl rfl (fun w' hS => ?_) ?_
        · have k5 : w'.cell? ⟨w.heap.size, 4, none⟩ = some (.slice A3 m p3) := hS.cell 4
          go_simp
        repeat (refine mix_pure rfl rfl (fun K hK => ?_); go_simp; refine hK _ ?_; clear hK K)
        refine mix_fork rfl rfl (fun K hK => ?_) (fun K hK => ?_)
        · go_simp
          have hn : Below z0.heap.size z0 (z0.alloc (.cells (roomE inEl) 55)) := (Below.refl _ _).alloc (Nat.le_refl _) _
          have o4 : OwnE inEl (z0.alloc (.cells (roomE inEl) 55)) (w.heap.size + 2) (.slice (some ⟨z0.heap.size, 0, none⟩) 0 12) [] := OwnE.made _ _ _ hs (by unfold maxLen; omega) (by simp [roomE, madeCells])
          generalize z0.alloc (.cells (roomE inEl) 55) = x1 at *
          generalize Value.slice (some ⟨z0.heap.size, 0, none⟩) 0 12 = v4 at *
          replace hb := hb.trans (hn.mono hb.size)
          replace mb := mb.below hn mb.lt
          replace mr := mr.below hn mr.lt
          replace hs := Nat.le_trans hs hn.size
          replace oO := oO.below hn
          refine hK _ _ (fun _ _ => mb) ?_
          clear hK K hn
          refine mix_fork rfl rfl (fun K hK => ?_) (fun K hK => ?_)
          · skip
            refine step_appE inEl rfl _ _ rfl (w.heap.size + 2) v4 [] rfl o4 (.slice A3 j p3) lI rfl (HI.out.below hb) (by have := HIL.out; show (0 + lI.length) * 24 ≤ _; omega) hs (fun v7 x2 o7 hgr _ hb7 => ?_)
            rw [List.nil_append] at o7
            replace mb := mb.below hb7 (by omega)
            replace mr := mr.below hb7 (by omega)
            replace oO := oO.grown hgr (own_apart2 oO o4)
            replace hb := hb.trans (hb7.mono (by omega))
            replace hs := Nat.le_trans hs hb7.size
            clear hb7 hgr
            refine hK _ _ (fun _ _ => mb) ?_
            clear hK K
            try clear o4
            refine mix_eff rfl rfl (fun K hK => ?_)
            refine step_bslice_one inT (by omega) zeroIn rfl _ rfl (inC i77).toArray rfl rfl ?_
            skip
            have hn : Below x2.heap.size x2 (x2.alloc (.cells (inC i77).toArray 55)) := (Below.refl _ _).alloc (Nat.le_refl _) _
            have t9 : SoloE inEl (x2.alloc (.cells (inC i77).toArray 55)) (.slice (some ⟨x2.heap.size, 0, none⟩) 1 1) i77 := SoloE.new inEl _ _
            generalize (x2.alloc (.cells (inC i77).toArray 55)) = x3 at *
            generalize Value.slice (some ⟨x2.heap.size, 0, none⟩) 1 1 = v9 at *
            replace hb := hb.trans (hn.mono hb.size)
            replace mb := mb.below hn mb.lt
            replace mr := mr.below hn mr.lt
            replace hs := Nat.le_trans hs hn.size
            replace o7 := o7.below hn
            replace oO := oO.below hn
            refine hK _ _ (fun _ _ => mb) ?_
            clear hK K hn
            exact hS0_2_4_8_10_13 v4 v7 v9 x3 ⟨hb, mb, mr, hs, t9, o7, oO⟩
          · refine step_bslice_one inT (by omega) zeroIn rfl _ rfl (inC i77).toArray rfl rfl ?_
            skip
            have hn : Below x1.heap.size x1 (x1.alloc (.cells (inC i77).toArray 55)) := (Below.refl _ _).alloc (Nat.le_refl _) _
            have s9 : SoloA inEl (x1.alloc (.cells (inC i77).toArray 55)) (.slice (some ⟨x1.heap.size, 0, none⟩) 1 1) v4 i77 := SoloA.new o4 _
            generalize (x1.alloc (.cells (inC i77).toArray 55)) = x4 at *
            generalize Value.slice (some ⟨x1.heap.size, 0, none⟩) 1 1 = v9 at *
            replace hb := hb.trans (hn.mono hb.size)
            replace mb := mb.below hn mb.lt
            replace mr := mr.below hn mr.lt
            replace hs := Nat.le_trans hs hn.size
            replace o4 := o4.below hn
            replace oO := oO.below hn
            refine hK _ _ (fun _ _ => mb) ?_
            clear hK K hn
            exact hS0_2_4_10_13 v4 v9 x4 ⟨hb, mb, mr, hs, o4, s9, oO⟩
        · refine step_bslice_one inT (by omega) zeroIn rfl _ rfl (inC i77).toArray rfl rfl ?_
          skip
          have hn : Below z0.heap.size z0 (z0.alloc (.cells (inC i77).toArray 55)) := (Below.refl _ _).alloc (Nat.le_refl _) _
          have e9 : SoloE inEl (z0.alloc (.cells (inC i77).toArray 55)) (.slice (some ⟨z0.heap.size, 0, none⟩) 1 1) i77 := SoloE.new inEl _ _
          generalize (z0.alloc (.cells (inC i77).toArray 55)) = x5 at *
          generalize Value.slice (some ⟨z0.heap.size, 0, none⟩) 1 1 = v9 at *
          replace hb := hb.trans (hn.mono hb.size)
          replace mb := mb.below hn mb.lt
          replace mr := mr.below hn mr.lt
          replace hs := Nat.le_trans hs hn.size
          replace oO := oO.below hn
          refine hK _ _ (fun _ _ => mb) ?_
          clear hK K hn
          refine mix_eff rfl rfl (fun K hK => ?_)
          go_simp
          have hn : Below x5.heap.size x5 (x5.alloc (.cells (roomE inEl) 55)) := (Below.refl _ _).alloc (Nat.le_refl _) _
          have o4 : OwnE inEl (x5.alloc (.cells (roomE inEl) 55)) (w.heap.size + 2) (.slice (some ⟨x5.heap.size, 0, none⟩) 0 12) [] := OwnE.made _ _ _ hs (by unfold maxLen; omega) (by simp [roomE, madeCells])
          have s9 : SoloA inEl (x5.alloc (.cells (roomE inEl) 55)) v9 (.slice (some ⟨x5.heap.size, 0, none⟩) 0 12) i77 := e9.apart hn
          clear e9
          generalize x5.alloc (.cells (roomE inEl) 55) = x6 at *
          generalize Value.slice (some ⟨x5.heap.size, 0, none⟩) 0 12 = v4 at *
          replace hb := hb.trans (hn.mono hb.size)
          replace mb := mb.below hn mb.lt
          replace mr := mr.below hn mr.lt
          replace hs := Nat.le_trans hs hn.size
          replace oO := oO.below hn
          refine hK _ _ (fun _ _ => mb) ?_
          clear hK K hn
          try clear e9
          exact hS0_2_4_10_13 v4 v9 x6 ⟨hb, mb, mr, hs, o4, s9, oO⟩
      · intro v4 v9 wx hA
        obtain ⟨hb, mb, mr, hs, o4, s9, oO⟩ := hA
        refine mix_eff rfl rfl (fun K hK => ?_)
        skip
        refine step_appE inEl rfl _ _ rfl (w.heap.size + 2) v4 [] rfl o4 (.slice A3 j p3) lI rfl (HI.out.below hb) (by have := HIL.out; show (0 + lI.length) * 24 ≤ _; omega) hs (fun v7 x7 o7 hgr _ hb7 => ?_)
        rw [List.nil_append] at o7
        replace mb := mb.below hb7 (by omega)
        replace mr := mr.below hb7 (by omega)
        replace oO := oO.grown hgr (own_apart2 oO o4)
        replace hb := hb.trans (hb7.mono (by omega))
        replace hs := Nat.le_trans hs hb7.size
        have t9 := s9.grown hgr
        clear s9
        clear hb7 hgr
        refine hK _ _ (fun _ _ => mb) ?_
        clear hK K
        try clear o4 s9
        exact hS0_2_4_8_10_13 v4 v7 v9 x7 ⟨hb, mb, mr, hs, t9, o7, oO⟩
    · intro v4 v7 v9 wx hA
      obtain ⟨hb, mb, mr, hs, t9, o7, oO⟩ := hA
      refine mix_eff rfl rfl (fun K hK => ?_)
      skip
      refine step_appE inEl rfl _ _ rfl (w.heap.size + 2) v7 lI rfl o7 v9 [i77] rfl (t9.arg (Nat.zero_le _)) (by have := HIL.out; show (lI.length + 1) * 24 ≤ _; omega) hs (fun v10 x8 o10 hgr _ hb10 => ?_)
      replace mb := mb.below hb10 (by omega)
      replace mr := mr.below hb10 (by omega)
      replace oO := oO.grown hgr (own_apart2 oO o7)
      replace hb := hb.trans (hb10.mono (by omega))
      replace hs := Nat.le_trans hs hb10.size
      clear hb10 hgr
      obtain ⟨gI, pI, rfl, hle, hge⟩ := own_form1 o10
      rw [HIL.out] at o10 hle ⊢
      have hsl2 := fun wx => run_slice_to (P := Try.prog) inT (some ⟨gI, 0, none⟩) (j + 1) pI (j : Int) .i64 (by omega) (by omega) wx
      rw [cutA_zero, Int.toNat_natCast] at hsl2
      refine hK _ _ (fun _ _ => mb) ?_
      clear hK K
      try clear t9 o7
      repeat (refine mix_pure rfl rfl (fun K hK => ?_); go_simp; refine hK _ ?_; clear hK K)
      have pb := mb.cell 4
      have fb := mb.frozen 4
      refine mix_ds rfl rfl rfl (fun K hK => ?_)
      go_simp
      refine hK _ _ ?_
      clear hK K pb fb
      refine mix_nil ?_
      replace mb : Blk (x8.setCell ⟨w.heap.size, 4, none⟩ (.slice (some ⟨gI, 0, none⟩) j pI)) w.heap.size #[.int .u32 (wb c.nx), .slice (some ⟨gO, 0, none⟩) k pO, .int .i64 c.turn, .int .u32 (wb c.dl), .slice (some ⟨gI, 0, none⟩) j pI] 26 := mb.set 4 _
      replace mr := mr.farAt (by omega) 4 (.slice (some ⟨gI, 0, none⟩) j pI) (g' := w.heap.size)
      replace hb := below_setCell hb (Nat.le_refl w.heap.size) 4 (.slice (some ⟨gI, 0, none⟩) j pI)
      replace o10 := o10.upd ((Upd.refl _ _).setCell 4 (.slice (some ⟨gI, 0, none⟩) j pI)) (show w.heap.size < w.heap.size + 2 by omega)
      replace oO := oO.upd ((Upd.refl _ _).setCell 4 (.slice (some ⟨gI, 0, none⟩) j pI)) (show w.heap.size < w.heap.size + 2 by omega)
      generalize x8.setCell ⟨w.heap.size, 4, none⟩ (.slice (some ⟨gI, 0, none⟩) j pI) = y1 at *
      go_wp2_with (first
        | (refine wpList_load_row rfl 26 _ rfl w.heap.size rfl 26 #[.int .u32 (wb c.nx), .slice (some ⟨gO, 0, none⟩) k pO, .int .i64 c.turn, .int .u32 (wb c.dl), .slice (some ⟨gI, 0, none⟩) j pI] _ _ mb Try.underlying26 rfl (by exact sizeCv) ?_)
        | (refine wpList_store_row rfl 26 _ _ rfl (w.heap.size + 1) #[.int .u32 (wb c.nx), .slice (some ⟨gO, 0, none⟩) k pO, .int .i64 c.turn, .int .u32 (wb c.dl), .slice (some ⟨gI, 0, none⟩) j pI] rfl rfl 26 _ mr (by exact sizeCv) rfl (by simp [Value.oneCell']) ?_; replace mr := mr.row #[.int .u32 (wb c.nx), .slice (some ⟨gO, 0, none⟩) k pO, .int .i64 c.turn, .int .u32 (wb c.dl), .slice (some ⟨gI, 0, none⟩) j pI]; replace hb := below_setRow hb (show w.heap.size ≤ w.heap.size + 1 by omega) #[.int .u32 (wb c.nx), .slice (some ⟨gO, 0, none⟩) k pO, .int .i64 c.turn, .int .u32 (wb c.dl), .slice (some ⟨gI, 0, none⟩) j pI]; replace o10 := o10.upd ((Upd.refl _ _).setRow #[.int .u32 (wb c.nx), .slice (some ⟨gO, 0, none⟩) k pO, .int .i64 c.turn, .int .u32 (wb c.dl), .slice (some ⟨gI, 0, none⟩) j pI]) (show w.heap.size + 1 < w.heap.size + 2 by omega); replace oO := oO.upd ((Upd.refl _ _).setRow #[.int .u32 (wb c.nx), .slice (some ⟨gO, 0, none⟩) k pO, .int .i64 c.turn, .int .u32 (wb c.dl), .slice (some ⟨gI, 0, none⟩) j pI]) (show w.heap.size + 1 < w.heap.size + 2 by omega))
        | fail)
      refine bodyPost_ret (results_cell1 rfl _ _ (w.heap.size + 1) 26 _ _ _ rfl mr Try.underlying26 rfl (by exact sizeCv)) rfl ?_
      refine ⟨_, rfl, ⟨_, _, HFIN.out _ _, ⟨gO, pO, by show _ = Value.slice _ _ _; rw [show (shortC c).outs.length = k from HLO.out], ?_⟩, ⟨gI, pI, by show _ = Value.slice _ _ _; rw [show (shortC c).held.length = j from HLI.out], ?_⟩⟩, hb⟩
      · rw [show (shortC c).outs.length = k from HLO.out, show (shortC c).outs = lO from HEO.out]; exact oO.base (by omega)
      · rw [show (shortC c).held.length = j from HLI.out, show (shortC c).held = lI from HEI.out]; exact o10.base (by omega)
end Go.Proofs.Ytjghhbollgggoaa
