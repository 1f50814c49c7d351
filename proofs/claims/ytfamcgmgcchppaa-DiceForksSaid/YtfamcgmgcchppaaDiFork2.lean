/- Fork. -/
import Derived.Test.YtfamcgmgcchppaaDiFork
import Derived.Test.YtfamcgmgcchppaaStr
namespace Go.Proofs.Ytfamcgmgcchppaa
open Go.RowKit
set_option linter.unusedVariables false
set_option linter.unusedSimpArgs false
set_option maxRecDepth 100000 in
set_option maxHeartbeats 4000000 in
theorem dfork_any (g : Nat) (key : List (BitVec 8)) (t : Nat) (label : List (BitVec 8)) (w : World) (h : DiceR w g key t) (ht : t ≤ 1099511627776) (hl : label.length ≤ 4096) :
    Calls Try.prog 23 #[.pointer (some ⟨g, 0, none⟩), .string (strB label)] w (ForkD w g key t label) := by
  have hgw := h.lt
  have HL := Lib.hid hl
  clear hl
  go_enter Try.func23, Try.ntmps23
  go_wp2_with fail
  refine (next_any g key t 32 w h (by omega) ht).mono ?_
  rintro e w1 ⟨v1, rfl, ho1, hd1, hu1⟩
  have hs1 := hu1.size
  obtain ⟨cc, W2, hcs, hcc, hR2, hn⟩ := conv_str w1 label
  have hs2 := hn.size
  have h1 := ho1.arg.below hn
  have hd2 := hd1.below (hn.mono (Nat.le_refl _))
  have hu2 := hu1.behind (hn.mono hs1)
  have h2 : Arg W2 (.slice (some ⟨w1.heap.size, 0, none⟩) label.length cc) label := arg_mk hR2 hcc
  obtain ⟨A1, c1, rfl, -, -⟩ := id h1
  have hSL := strm_length key t 32
  rw [hSL] at h1 ⊢
  have hn3 : Below W2.heap.size W2 (W2.alloc (.cells #[.slice A1 32 c1, .slice (some ⟨w1.heap.size, 0, none⟩) label.length cc] 22)) := (Below.refl _ _).alloc (Nat.le_refl _) _
  have hB : Blk (W2.alloc (.cells #[.slice A1 32 c1, .slice (some ⟨w1.heap.size, 0, none⟩) label.length cc] 22)) W2.heap.size #[.slice A1 32 c1, .slice (some ⟨w1.heap.size, 0, none⟩) label.length cc] 22 := Blk.new _ _ _
  have hs3 := hn3.size
  have hd3 := hd2.below hn3
  have hu3 := hu2.behind (hn3.mono (by omega))
  have HC := Lib.hid (concat_any (strm key t 32) label _ _ _ _ hB (h1.below hn3) (h2.below hn3) (by rw [hSL]; omega) (by rw [hSL]; omega) HL.out)
  have HD := Lib.hid hd3
  have HU := Lib.hid hu3
  have HS := Lib.hid hSL
  clear hB h1 h2 hd2 hu2 hd3 hu3 hd1 hu1 ho1 hSL hn hn3 hR2 hcc hs3
  go_wp2_with fail
  refine HC.out.mono ?_
  rintro e w4 ⟨v4, rfl, h4, hn4⟩
  have HD4 := Lib.hid (HD.out.below hn4)
  have HU4 := Lib.hid (HU.out.behind (hn4.mono HU.out.size))
  clear HC HD HU
  replace h4 : OwnB w4 _ v4 (strm key t 32 ++ label) := h4
  obtain ⟨A4, c4, rfl, hc4, hR4⟩ := h4.arg
  clear h4 hcs
  have hLL : (strm key t 32 ++ label).length ≤ 281474976710656 := by rw [List.length_append, HS.out]; have := HL.out; omega
  have HN := Lib.hid (dnew_any (strm key t 32 ++ label) A4 c4 w4 hR4 hc4 hLL)
  have hw4 := HU4.out.size
  obtain ⟨len, hlen⟩ : ∃ n, n = (strm key t 32 ++ label).length := ⟨_, rfl⟩
  rw [← hlen] at HN ⊢
  clear hn4 hR4 hc4 hLL hlen
  go_wp2_with fail
  refine HN.out.mono ?_
  rintro e w5 ⟨g5, rfl, hg5, hd5, hb5⟩
  have HD5 := HD4.out.below hb5
  have HU5 := HU4.out.behind (hb5.mono hw4)
  clear HD4 HU4 HN
  go_wp2_with fail
  refine bodyPost_ret (results_tmp2 rfl _ _ _) rfl ?_
  exact ⟨g5, rfl, Nat.le_trans hw4 hg5, hd5, HD5, HU5⟩
end Go.Proofs.Ytfamcgmgcchppaa
