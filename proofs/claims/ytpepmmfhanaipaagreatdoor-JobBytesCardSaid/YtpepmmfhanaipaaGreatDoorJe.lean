-- Put together by mergex.py out of this workplace's texts.
import Derived.Test.YtpepmmfhanaipaaGreatDoorJd
import Derived.Test.YtpepmmfhanaipaaGreatDoorJPJobBytesx3
section
namespace Go.Proofs.YtpepmmfhanaipaaGreatDoor.Wk
open Go.RowKit Go.Shelf Go.Proofs.YtpepmmfhanaipaaGreatDoorW.PrintWords Go.Proofs.YtpepmmfhanaipaaGreatDoorW.PrintLast Go.Proofs.YtpepmmfhanaipaaGreatDoorW.PrintMore
set_option linter.unusedVariables false
set_option linter.unusedSimpArgs false
structure St (w0 W : World) (b2 b3 bs bi bj : Nat) (p : ByteArray) : Prop where
  c : W.heap[b2]? = some (.cells #[.int .i64 1, .slice (some ⟨bs, 0, none⟩) 1 1, .int .i64 1, .int .i64 16] 51 (0, 0))
  j : W.heap[b3]? = some (.cells #[.int .i64 1, .string p, .int .i64 1, .int .i64 0, .int .i64 0, .slice (some ⟨bj, 0, none⟩) 1 1, .int .i64 1] 63 (0, 0))
  cfg : Cfg W bs bi
  sj : W.heap[bj]? = some (.cells #[.int .i64 1] 3 (0, 0))
  bel : Below w0.heap.size w0 W
  laid : Lang.Laid W
theorem St.below {w0 W W' : World} {b2 b3 bs bi bj : Nat} {p : ByteArray} (h : St w0 W b2 b3 bs bi bj p) (hb : Below W.heap.size W W') : St w0 W' b2 b3 bs bi bj p :=
  ⟨(hb.block _ (lt_blk h.c)).trans h.c, (hb.block _ (lt_blk h.j)).trans h.j, h.cfg.below hb, (hb.block _ (lt_blk h.sj)).trans h.sj, h.bel.trans (hb.mono h.bel.size), h.laid.below hb⟩
theorem St.begin {w : World} {bs bi bj : Nat} (p : ByteArray) (hL : Lang.Laid w) (hC : Cfg w bs bi) (hj : w.heap[bj]? = some (.cells #[.int .i64 1] 3 (0, 0))) :
    ∃ b2 b3, b2 = w.heap.size ∧ b3 = w.heap.size + 1 ∧ St w ((w.alloc (.cells #[.int .i64 1, .slice (some ⟨bs, 0, none⟩) 1 1, .int .i64 1, .int .i64 16] 51)).alloc (.cells #[.int .i64 1, .string p, .int .i64 1, .int .i64 0, .int .i64 0, .slice (some ⟨bj, 0, none⟩) 1 1, .int .i64 1] 63)) b2 b3 bs bi bj p := by
  have hB : Below w.heap.size w ((w.alloc (.cells #[.int .i64 1, .slice (some ⟨bs, 0, none⟩) 1 1, .int .i64 1, .int .i64 16] 51)).alloc (.cells #[.int .i64 1, .string p, .int .i64 1, .int .i64 0, .int .i64 0, .slice (some ⟨bj, 0, none⟩) 1 1, .int .i64 1] 63)) := below_alloc (below_alloc (Below.refl _ _) _) _
  refine ⟨_, _, rfl, rfl, blk_alloc (heap_alloc_new w _) _, ?_, hC.below hB, (hB.block _ (lt_blk hj)).trans hj, hB, hL.below hB⟩
  have := heap_alloc_new (w.alloc (.cells #[.int .i64 1, .slice (some ⟨bs, 0, none⟩) 1 1, .int .i64 1, .int .i64 16] 51)) (.cells #[.int .i64 1, .string p, .int .i64 1, .int .i64 0, .int .i64 0, .slice (some ⟨bj, 0, none⟩) 1 1, .int .i64 1] 63)
  simpa using this
theorem St.cells {w0 W : World} {b2 b3 bs bi bj : Nat} {p : ByteArray} (h : St w0 W b2 b3 bs bi bj p) :
    W.cell? ⟨b2, 0, none⟩ = some (.int .i64 1) ∧ W.cell? ⟨b2, 1, none⟩ = some (.slice (some ⟨bs, 0, none⟩) 1 1) ∧ W.cell? ⟨b2, 2, none⟩ = some (.int .i64 1) ∧ W.cell? ⟨b2, 3, none⟩ = some (.int .i64 16) ∧
    W.cell? ⟨b3, 0, none⟩ = some (.int .i64 1) ∧ W.cell? ⟨b3, 1, none⟩ = some (.string p) ∧ W.cell? ⟨b3, 2, none⟩ = some (.int .i64 1) ∧ W.cell? ⟨b3, 3, none⟩ = some (.int .i64 0) ∧ W.cell? ⟨b3, 4, none⟩ = some (.int .i64 0) ∧ W.cell? ⟨b3, 5, none⟩ = some (.slice (some ⟨bj, 0, none⟩) 1 1) ∧ W.cell? ⟨b3, 6, none⟩ = some (.int .i64 1) ∧
    W.cell? ⟨bj, 0, none⟩ = some (.int .i64 1) := by
  have hc := blk_cell h.c
  have hj := blk_cell h.j
  have hs := blk_cell h.sj
  exact ⟨(hc 0).trans rfl, (hc 1).trans rfl, (hc 2).trans rfl, (hc 3).trans rfl, (hj 0).trans rfl, (hj 1).trans rfl, (hj 2).trans rfl, (hj 3).trans rfl, (hj 4).trans rfl, (hj 5).trans rfl, (hj 6).trans rfl, (hs 0).trans rfl⟩
set_option maxHeartbeats 1000000 in
set_option maxRecDepth 100000 in
theorem c104b (bs bi bj : Nat) (w : World) (hL : Lang.Laid w) (hC : Cfg w bs bi) (hj : w.heap[bj]? = some (.cells #[.int .i64 1] 3 (0, 0))) : Calls Tryz.prog 104 #[.agg #[.int .i64 1, .slice (some ⟨bs, 0, none⟩) 1 1, .int .i64 1, .int .i64 16], .agg #[.int .i64 1, .string ⟨#[98]⟩, .int .i64 1, .int .i64 0, .int .i64 0, .slice (some ⟨bj, 0, none⟩) 1 1, .int .i64 1]] w fun e w' => e = .returned (.int .i64 7) ∧ Below w.heap.size w w' := by
  have HP := Aside0.mk (St.begin ⟨#[98]⟩ hL hC hj)
  go_enter Tryz.func104, Tryz.ntmps104
  go_upto_region 1 with (fail)
  obtain ⟨b2, b3, e2, e3, hs⟩ := HP.out
  have HS := Aside0.mk hs
  clear hs HP
  generalize (w.alloc (.cells #[.int .i64 1, .slice (some ⟨bs, 0, none⟩) 1 1, .int .i64 1, .int .i64 16] 51)).alloc (.cells #[.int .i64 1, .string ⟨#[98]⟩, .int .i64 1, .int .i64 0, .int .i64 0, .slice (some ⟨bj, 0, none⟩) 1 1, .int .i64 1] 63) = W at HS ⊢
  rw [← e3, ← e2]
  clear e2 e3
  obtain ⟨x0, x1, x2, x3, y0, y1, y2, y3, y4, y5, y6, z0⟩ := HS.out.cells
  go_wp2_with (first
    | (go_at_call 28; refine (c28 ⟨#[98]⟩ jchkb bj _ HS.out.sj).mono ?_; rintro e w1 ⟨rfl, hb⟩; have HS2 := Aside0.mk (HS.out.below hb); clear hb HS x0 x1 x2 x3 y0 y1 y2 y3 y4 y5 y6 z0; have HS := HS2; clear HS2; obtain ⟨x0, x1, x2, x3, y0, y1, y2, y3, y4, y5, y6, z0⟩ := HS.out.cells)
    | (go_at_call 135; refine (c135b 1 (.slice (some ⟨bj, 0, none⟩) 1 1) 1 _ HS.out.laid).mono ?_; rintro e w1 ⟨rfl, hb⟩; have HS2 := Aside0.mk (HS.out.below hb); clear hb HS x0 x1 x2 x3 y0 y1 y2 y3 y4 y5 y6 z0; have HS := HS2; clear HS2; obtain ⟨x0, x1, x2, x3, y0, y1, y2, y3, y4, y5, y6, z0⟩ := HS.out.cells))
  go_ret
  exact ⟨rfl, HS.out.bel⟩
set_option maxHeartbeats 1000000 in
set_option maxRecDepth 100000 in
theorem c104 (bs bi bj : Nat) (w : World) (hL : Lang.Laid w) (hC : Cfg w bs bi) (hj : w.heap[bj]? = some (.cells #[.int .i64 1] 3 (0, 0))) : Calls Tryz.prog 104 #[.agg #[.int .i64 1, .slice (some ⟨bs, 0, none⟩) 1 1, .int .i64 1, .int .i64 16], .agg #[.int .i64 1, .string ⟨#[]⟩, .int .i64 1, .int .i64 0, .int .i64 0, .slice (some ⟨bj, 0, none⟩) 1 1, .int .i64 1]] w fun e w' => e = .returned (.int .i64 0) ∧ Below w.heap.size w w' := by
  have HP := Aside0.mk (St.begin ⟨#[]⟩ hL hC hj)
  go_enter Tryz.func104, Tryz.ntmps104
  go_upto_region 1 with (fail)
  obtain ⟨b2, b3, e2, e3, hs⟩ := HP.out
  have HS := Aside0.mk hs
  clear hs HP
  generalize (w.alloc (.cells #[.int .i64 1, .slice (some ⟨bs, 0, none⟩) 1 1, .int .i64 1, .int .i64 16] 51)).alloc (.cells #[.int .i64 1, .string ⟨#[]⟩, .int .i64 1, .int .i64 0, .int .i64 0, .slice (some ⟨bj, 0, none⟩) 1 1, .int .i64 1] 63) = W at HS ⊢
  rw [← e3, ← e2]
  clear e2 e3
  obtain ⟨x0, x1, x2, x3, y0, y1, y2, y3, y4, y5, y6, z0⟩ := HS.out.cells
  go_wp2_with (first
    | (go_at_call 28; refine (c28 ⟨#[]⟩ jchk0 bj _ HS.out.sj).mono ?_; rintro e w1 ⟨rfl, hb⟩; have HS2 := Aside0.mk (HS.out.below hb); clear hb HS x0 x1 x2 x3 y0 y1 y2 y3 y4 y5 y6 z0; have HS := HS2; clear HS2; obtain ⟨x0, x1, x2, x3, y0, y1, y2, y3, y4, y5, y6, z0⟩ := HS.out.cells)
    | (go_at_call 135; refine (c135 1 (.slice (some ⟨bj, 0, none⟩) 1 1) 1 _ HS.out.laid).mono ?_; rintro e w1 ⟨⟨A, c, rfl⟩, hb⟩; have HS2 := Aside0.mk (HS.out.below hb); clear hb HS x0 x1 x2 x3 y0 y1 y2 y3 y4 y5 y6 z0; have HS := HS2; clear HS2; obtain ⟨x0, x1, x2, x3, y0, y1, y2, y3, y4, y5, y6, z0⟩ := HS.out.cells))
  go_loopg [25] 2 (fun kq v25 w' => ((v25 = .int .i64 0 ∧ kq = 2) ∨ (v25 = .int .i64 1 ∧ kq = 1)) ∧ Aside0 (St w w' b2 b3 bs bi bj ⟨#[]⟩))
  case atStart => exact ⟨.inl ⟨rfl, rfl⟩, HS⟩
  case round =>
    clear HS x0 x1 x2 x3 y0 y1 y2 y3 y4 y5 y6 z0
    obtain ⟨⟨rfl, HQ⟩ | ⟨rfl, HQ⟩, HS⟩ := hrel
    · cases gk with
      | zero => cases HQ
      | succ k1 =>
        obtain rfl : k1 = 1 := by omega
        clear HQ
        obtain ⟨x0, x1, x2, x3, y0, y1, y2, y3, y4, y5, y6, z0⟩ := HS.out.cells
        go_wp2_with (first | (go_at_call 136; refine (c136 bs bi _ HS.out.cfg).mono ?_; rintro e w2 ⟨⟨A2, c2, rfl⟩, hb⟩; have HS2 := Aside0.mk (HS.out.below hb); clear hb))
        have HS3 := Aside0.mk (HS2.out.below (W' := w2.alloc (.cells #[.int .i64 1, .string ⟨#[]⟩, .slice A2 1 c2] 123)) (below_alloc (Below.refl _ _) _))
        go_roundg 1
        case measure => omega
        case rel => exact ⟨.inr ⟨rfl, rfl⟩, HS3⟩
    · cases gk with
      | zero => cases HQ
      | succ k1 =>
        clear HQ
        go_wp2
        go_ret
        exact ⟨rfl, HS.out.bel⟩
set_option maxHeartbeats 1000000 in
set_option maxRecDepth 100000 in
theorem c67b (bs bi bj : Nat) (w : World) (hL : Lang.Laid w) (hC : Cfg w bs bi) (hj : w.heap[bj]? = some (.cells #[.int .i64 1] 3 (0, 0))) : Calls Tryz.prog 67 #[.agg #[.int .i64 1, .slice (some ⟨bs, 0, none⟩) 1 1, .int .i64 1, .int .i64 16], .agg #[.int .i64 1, .string ⟨#[98]⟩, .int .i64 1, .int .i64 0, .int .i64 0, .slice (some ⟨bj, 0, none⟩) 1 1, .int .i64 1]] w fun e w' => e = .returned (.int .i64 7) ∧ Below w.heap.size w w' := by
  have HP := Aside0.mk (St.begin ⟨#[98]⟩ hL hC hj)
  go_enter Tryz.func67, Tryz.ntmps67
  go_upto_region 1 with (fail)
  obtain ⟨b2, b3, e2, e3, hs⟩ := HP.out
  have HS := Aside0.mk hs
  clear hs HP
  generalize (w.alloc (.cells #[.int .i64 1, .slice (some ⟨bs, 0, none⟩) 1 1, .int .i64 1, .int .i64 16] 51)).alloc (.cells #[.int .i64 1, .string ⟨#[98]⟩, .int .i64 1, .int .i64 0, .int .i64 0, .slice (some ⟨bj, 0, none⟩) 1 1, .int .i64 1] 63) = W at HS ⊢
  rw [← e3, ← e2]
  clear e2 e3
  obtain ⟨x0, x1, x2, x3, y0, y1, y2, y3, y4, y5, y6, z0⟩ := HS.out.cells
  go_wp2_with (first
    | (go_at_call 103; refine (c103 bs bi _ HS.out.cfg).mono ?_; rintro e w1 ⟨rfl, hb⟩; have HS2 := Aside0.mk (HS.out.below hb); clear hb HS x0 x1 x2 x3 y0 y1 y2 y3 y4 y5 y6 z0; have HS := HS2; clear HS2; obtain ⟨x0, x1, x2, x3, y0, y1, y2, y3, y4, y5, y6, z0⟩ := HS.out.cells)
    | (go_at_call 104; refine (c104b bs bi bj _ HS.out.laid HS.out.cfg HS.out.sj).mono ?_; rintro e w1 ⟨rfl, hb⟩; have HS2 := Aside0.mk (HS.out.below hb); clear hb HS x0 x1 x2 x3 y0 y1 y2 y3 y4 y5 y6 z0; have HS := HS2; clear HS2; obtain ⟨x0, x1, x2, x3, y0, y1, y2, y3, y4, y5, y6, z0⟩ := HS.out.cells))
  go_ret
  exact ⟨rfl, HS.out.bel⟩
set_option maxHeartbeats 1000000 in
set_option maxRecDepth 100000 in
theorem c67 (bs bi bj : Nat) (w : World) (hL : Lang.Laid w) (hC : Cfg w bs bi) (hj : w.heap[bj]? = some (.cells #[.int .i64 1] 3 (0, 0))) : Calls Tryz.prog 67 #[.agg #[.int .i64 1, .slice (some ⟨bs, 0, none⟩) 1 1, .int .i64 1, .int .i64 16], .agg #[.int .i64 1, .string ⟨#[]⟩, .int .i64 1, .int .i64 0, .int .i64 0, .slice (some ⟨bj, 0, none⟩) 1 1, .int .i64 1]] w fun e w' => e = .returned (.int .i64 0) ∧ Below w.heap.size w w' := by
  have HP := Aside0.mk (St.begin ⟨#[]⟩ hL hC hj)
  go_enter Tryz.func67, Tryz.ntmps67
  go_upto_region 1 with (fail)
  obtain ⟨b2, b3, e2, e3, hs⟩ := HP.out
  have HS := Aside0.mk hs
  clear hs HP
  generalize (w.alloc (.cells #[.int .i64 1, .slice (some ⟨bs, 0, none⟩) 1 1, .int .i64 1, .int .i64 16] 51)).alloc (.cells #[.int .i64 1, .string ⟨#[]⟩, .int .i64 1, .int .i64 0, .int .i64 0, .slice (some ⟨bj, 0, none⟩) 1 1, .int .i64 1] 63) = W at HS ⊢
  rw [← e3, ← e2]
  clear e2 e3
  obtain ⟨x0, x1, x2, x3, y0, y1, y2, y3, y4, y5, y6, z0⟩ := HS.out.cells
  go_wp2_with (first
    | (go_at_call 103; refine (c103 bs bi _ HS.out.cfg).mono ?_; rintro e w1 ⟨rfl, hb⟩; have HS2 := Aside0.mk (HS.out.below hb); clear hb HS x0 x1 x2 x3 y0 y1 y2 y3 y4 y5 y6 z0; have HS := HS2; clear HS2; obtain ⟨x0, x1, x2, x3, y0, y1, y2, y3, y4, y5, y6, z0⟩ := HS.out.cells)
    | (go_at_call 104; refine (c104 bs bi bj _ HS.out.laid HS.out.cfg HS.out.sj).mono ?_; rintro e w1 ⟨rfl, hb⟩; have HS2 := Aside0.mk (HS.out.below hb); clear hb HS x0 x1 x2 x3 y0 y1 y2 y3 y4 y5 y6 z0; have HS := HS2; clear HS2; obtain ⟨x0, x1, x2, x3, y0, y1, y2, y3, y4, y5, y6, z0⟩ := HS.out.cells))
  go_ret
  exact ⟨rfl, HS.out.bel⟩
end Go.Proofs.YtpepmmfhanaipaaGreatDoor.Wk
end
section
namespace Go.Proofs.YtpepmmfhanaipaaGreatDoor.Wk
open Go.RowKit Go.Shelf Go.Proofs.YtpepmmfhanaipaaGreatDoorW.PrintWords Go.Proofs.YtpepmmfhanaipaaGreatDoorW.PrintLast Go.Proofs.YtpepmmfhanaipaaGreatDoorW.PrintMore
set_option linter.unusedVariables false
set_option linter.unusedSimpArgs false
set_option maxHeartbeats 1000000 in
set_option maxRecDepth 100000 in
theorem c105 (bs bi bj : Nat) (w : World) (hL : Lang.Laid w) (hC : Cfg w bs bi) (hj : w.heap[bj]? = some (.cells #[.int .i64 1] 3 (0, 0))) : Calls Tryz.prog 105 #[.agg #[.int .i64 1, .slice (some ⟨bs, 0, none⟩) 1 1, .int .i64 1, .int .i64 16], .agg #[.int .i64 1, .string ⟨#[]⟩, .int .i64 1, .int .i64 0, .int .i64 0, .slice (some ⟨bj, 0, none⟩) 1 1, .int .i64 1]] w fun e w' => e = .returned (.tuple #[.slice none 0 0, .int .i64 0]) ∧ Below w.heap.size w w' := by
  have HP := Aside0.mk (St.begin ⟨#[]⟩ hL hC hj)
  go_enter Tryz.func105, Tryz.ntmps105
  go_upto_region 1 with (fail)
  obtain ⟨b2, b3, e2, e3, hs⟩ := HP.out
  have HS := Aside0.mk hs
  clear hs HP
  generalize (w.alloc (.cells #[.int .i64 1, .slice (some ⟨bs, 0, none⟩) 1 1, .int .i64 1, .int .i64 16] 51)).alloc (.cells #[.int .i64 1, .string ⟨#[]⟩, .int .i64 1, .int .i64 0, .int .i64 0, .slice (some ⟨bj, 0, none⟩) 1 1, .int .i64 1] 63) = W at HS ⊢
  rw [← e3, ← e2]
  clear e2 e3
  obtain ⟨x0, x1, x2, x3, y0, y1, y2, y3, y4, y5, y6, z0⟩ := HS.out.cells
  go_wp2
  go_loopg [4, 13] 2 (fun kq v4 v13 w' => v4 = .slice none 0 0 ∧ ((v13 = .int .i64 0 ∧ kq = 2) ∨ (v13 = .int .i64 1 ∧ kq = 1)) ∧ Aside0 (St w w' b2 b3 bs bi bj ⟨#[]⟩))
  case atStart => exact ⟨rfl, .inl ⟨rfl, rfl⟩, HS⟩
  case round =>
    clear HS x0 x1 x2 x3 y0 y1 y2 y3 y4 y5 y6 z0
    obtain ⟨rfl, ⟨rfl, HQ⟩ | ⟨rfl, HQ⟩, HS⟩ := hrel
    · cases gk with
      | zero => cases HQ
      | succ k1 =>
        obtain rfl : k1 = 1 := by omega
        clear HQ
        obtain ⟨x0, x1, x2, x3, y0, y1, y2, y3, y4, y5, y6, z0⟩ := HS.out.cells
        go_upto_region 4 with (fail)
        clear x0 x1 x2 x3 y0 y1 y2 y3 y4 y5 y6 z0
        have HSd := Aside0.mk (HS.out.below (W' := wr.drew) (below_drew (Below.refl _ _)))
        obtain ⟨x0, x1, x2, x3, y0, y1, y2, y3, y4, y5, y6, z0⟩ := HSd.out.cells
        go_region_law (first
          | (go_simp; go_at_call 137; refine (c137 bs bi _ HSd.out.cfg).mono ?_; rintro e w2 ⟨rfl, hb⟩; have HS2 := Aside0.mk (HSd.out.below hb); clear hb x0 x1 x2 x3 y0 y1 y2 y3 y4 y5 y6 z0; obtain ⟨x0, x1, x2, x3, y0, y1, y2, y3, y4, y5, y6, z0⟩ := HS2.out.cells)
          | (go_simp; go_at_call 125; refine (c125 1 (.slice (some ⟨bj, 0, none⟩) 1 1) 1 _ HS2.out.laid).mono ?_; rintro e w3 ⟨rfl, hb⟩; have HS3 := Aside0.mk (HS2.out.below hb); clear hb))
        all_goals
          clear x0 x1 x2 x3 y0 y1 y2 y3 y4 y5 y6 z0
          go_wp2
          go_roundg 1
          case measure => omega
          case rel => exact ⟨rfl, .inr ⟨rfl, rfl⟩, HS3⟩
    · cases gk with
      | zero => cases HQ
      | succ k1 =>
        clear HQ
        go_wp2
        go_ret2
        exact ⟨rfl, HS.out.bel⟩
set_option maxHeartbeats 1000000 in
set_option maxRecDepth 100000 in
theorem c107 (bs bi bj : Nat) (w : World) (hL : Lang.Laid w) (hC : Cfg w bs bi) (hj : w.heap[bj]? = some (.cells #[.int .i64 1] 3 (0, 0))) : Calls Tryz.prog 107 #[.agg #[.int .i64 1, .slice (some ⟨bs, 0, none⟩) 1 1, .int .i64 1, .int .i64 16], .agg #[.int .i64 1, .string ⟨#[]⟩, .int .i64 1, .int .i64 0, .int .i64 0, .slice (some ⟨bj, 0, none⟩) 1 1, .int .i64 1]] w fun e w' => e = .returned (.slice none 0 0) ∧ Below w.heap.size w w' := by
  have HP := Aside0.mk (St.begin ⟨#[]⟩ hL hC hj)
  go_enter Tryz.func107, Tryz.ntmps107
  go_upto_region 1 with (fail)
  obtain ⟨b2, b3, e2, e3, hs⟩ := HP.out
  have HS := Aside0.mk hs
  clear hs HP
  generalize (w.alloc (.cells #[.int .i64 1, .slice (some ⟨bs, 0, none⟩) 1 1, .int .i64 1, .int .i64 16] 51)).alloc (.cells #[.int .i64 1, .string ⟨#[]⟩, .int .i64 1, .int .i64 0, .int .i64 0, .slice (some ⟨bj, 0, none⟩) 1 1, .int .i64 1] 63) = W at HS ⊢
  rw [← e3, ← e2]
  clear e2 e3
  obtain ⟨x0, x1, x2, x3, y0, y1, y2, y3, y4, y5, y6, z0⟩ := HS.out.cells
  go_wp2
  go_loopg [4, 12] 2 (fun kq v4 v12 w' => v4 = .slice none 0 0 ∧ ((v12 = .int .i64 0 ∧ kq = 2) ∨ (v12 = .int .i64 1 ∧ kq = 1)) ∧ Aside0 (St w w' b2 b3 bs bi bj ⟨#[]⟩))
  case atStart => exact ⟨rfl, .inl ⟨rfl, rfl⟩, HS⟩
  case round =>
    clear HS x0 x1 x2 x3 y0 y1 y2 y3 y4 y5 y6 z0
    obtain ⟨rfl, ⟨rfl, HQ⟩ | ⟨rfl, HQ⟩, HS⟩ := hrel
    · cases gk with
      | zero => cases HQ
      | succ k1 =>
        obtain rfl : k1 = 1 := by omega
        clear HQ
        obtain ⟨x0, x1, x2, x3, y0, y1, y2, y3, y4, y5, y6, z0⟩ := HS.out.cells
        go_upto_region 4 with (fail)
        clear x0 x1 x2 x3 y0 y1 y2 y3 y4 y5 y6 z0
        have HSd := Aside0.mk (HS.out.below (W' := wr.drew) (below_drew (Below.refl _ _)))
        obtain ⟨x0, x1, x2, x3, y0, y1, y2, y3, y4, y5, y6, z0⟩ := HSd.out.cells
        go_region_law (first
          | (go_simp; go_at_call 137; refine (c137 bs bi _ HSd.out.cfg).mono ?_; rintro e w2 ⟨rfl, hb⟩; have HS2 := Aside0.mk (HSd.out.below hb); clear hb x0 x1 x2 x3 y0 y1 y2 y3 y4 y5 y6 z0; obtain ⟨x0, x1, x2, x3, y0, y1, y2, y3, y4, y5, y6, z0⟩ := HS2.out.cells)
          | (go_simp; go_at_call 47; refine (c47 1 (.slice (some ⟨bj, 0, none⟩) 1 1) 1 _ HS2.out.laid).mono ?_; rintro e w3 ⟨rfl, hb⟩; have HS3 := Aside0.mk (HS2.out.below hb); clear hb))
        all_goals
          clear x0 x1 x2 x3 y0 y1 y2 y3 y4 y5 y6 z0
          go_wp2
          go_roundg 1
          case measure => omega
          case rel => exact ⟨rfl, .inr ⟨rfl, rfl⟩, HS3⟩
    · cases gk with
      | zero => cases HQ
      | succ k1 =>
        clear HQ
        go_wp2_with (first
          | (go_at_call 139; refine (Tryz.slices_Sort_int_none none 0 _).mono ?_; rintro e w4 ⟨rfl, rfl⟩)
          | (go_at_call 140; refine (Tryz.slices_Compact_int_empty none 0 _).mono ?_; rintro e w5 ⟨rfl, rfl⟩))
        go_ret
        exact ⟨rfl, HS.out.bel⟩
end Go.Proofs.YtpepmmfhanaipaaGreatDoor.Wk
end
section
namespace Go.Proofs.YtpepmmfhanaipaaGreatDoor.Wk
open Go.RowKit Go.Shelf Go.Proofs.YtpepmmfhanaipaaGreatDoorW.PrintWords Go.Proofs.YtpepmmfhanaipaaGreatDoorW.PrintLast Go.Proofs.YtpepmmfhanaipaaGreatDoorW.PrintMore
set_option linter.unusedVariables false
set_option linter.unusedSimpArgs false
theorem wk_begin (w : World) (hL : Lang.Laid w) : St w (((((w.alloc (.cells #[.int .i64 1] 3)).alloc (.cells #[.int .i64 1, .string ⟨#[]⟩, .slice (some ⟨w.heap.size, 0, none⟩) 1 1] 123)).alloc (.cells #[.int .i64 1, .slice (some ⟨w.heap.size + 1, 0, none⟩) 1 1, .int .i64 1, .int .i64 16] 51)).alloc (.cells #[.int .i64 1] 3)).alloc (.cells #[.int .i64 1, .string ⟨#[98]⟩, .int .i64 1, .int .i64 0, .int .i64 0, .slice (some ⟨w.heap.size + 1 + 1 + 1, 0, none⟩) 1 1, .int .i64 1] 63)) (w.heap.size + 1 + 1) (w.heap.size + 1 + 1 + 1 + 1) (w.heap.size + 1) w.heap.size (w.heap.size + 1 + 1 + 1) ⟨#[98]⟩ := by
  have hB : Below w.heap.size w (((((w.alloc (.cells #[.int .i64 1] 3)).alloc (.cells #[.int .i64 1, .string ⟨#[]⟩, .slice (some ⟨w.heap.size, 0, none⟩) 1 1] 123)).alloc (.cells #[.int .i64 1, .slice (some ⟨w.heap.size + 1, 0, none⟩) 1 1, .int .i64 1, .int .i64 16] 51)).alloc (.cells #[.int .i64 1] 3)).alloc (.cells #[.int .i64 1, .string ⟨#[98]⟩, .int .i64 1, .int .i64 0, .int .i64 0, .slice (some ⟨w.heap.size + 1 + 1 + 1, 0, none⟩) 1 1, .int .i64 1] 63)) := below_alloc (below_alloc (below_alloc (below_alloc (below_alloc (Below.refl _ _) _) _) _) _) _
  have f1 := heap_alloc_new w (.cells #[.int .i64 1] 3)
  have f2 := heap_alloc_new (w.alloc (.cells #[.int .i64 1] 3)) (.cells #[.int .i64 1, .string ⟨#[]⟩, .slice (some ⟨w.heap.size, 0, none⟩) 1 1] 123)
  have f3 := heap_alloc_new ((w.alloc (.cells #[.int .i64 1] 3)).alloc (.cells #[.int .i64 1, .string ⟨#[]⟩, .slice (some ⟨w.heap.size, 0, none⟩) 1 1] 123)) (.cells #[.int .i64 1, .slice (some ⟨w.heap.size + 1, 0, none⟩) 1 1, .int .i64 1, .int .i64 16] 51)
  have f4 := heap_alloc_new (((w.alloc (.cells #[.int .i64 1] 3)).alloc (.cells #[.int .i64 1, .string ⟨#[]⟩, .slice (some ⟨w.heap.size, 0, none⟩) 1 1] 123)).alloc (.cells #[.int .i64 1, .slice (some ⟨w.heap.size + 1, 0, none⟩) 1 1, .int .i64 1, .int .i64 16] 51)) (.cells #[.int .i64 1] 3)
  have f5 := heap_alloc_new ((((w.alloc (.cells #[.int .i64 1] 3)).alloc (.cells #[.int .i64 1, .string ⟨#[]⟩, .slice (some ⟨w.heap.size, 0, none⟩) 1 1] 123)).alloc (.cells #[.int .i64 1, .slice (some ⟨w.heap.size + 1, 0, none⟩) 1 1, .int .i64 1, .int .i64 16] 51)).alloc (.cells #[.int .i64 1] 3)) (.cells #[.int .i64 1, .string ⟨#[98]⟩, .int .i64 1, .int .i64 0, .int .i64 0, .slice (some ⟨w.heap.size + 1 + 1 + 1, 0, none⟩) 1 1, .int .i64 1] 63)
  simp only [World.size_alloc] at f2 f3 f4 f5
  exact ⟨blk_alloc (blk_alloc f3 _) _, f5, ⟨blk_alloc (blk_alloc (blk_alloc f2 _) _) _, blk_alloc (blk_alloc (blk_alloc (blk_alloc f1 _) _) _) _⟩, blk_alloc f4 _, hB, hL.below hB⟩
theorem blk_ne {w : World} {a b : Nat} {c1 c2 : Array Value} {t1 t2 : TypeId} (h1 : w.heap[a]? = some (.cells c1 t1 (0, 0))) (h2 : w.heap[b]? = some (.cells c2 t2 (0, 0))) (ht : t1 ≠ t2) : a ≠ b := by
  rintro rfl
  rw [h1] at h2
  injection h2 with h2
  injection h2 with _ h2 _
  exact ht h2
theorem St.setp {w0 W : World} {b2 b3 bs bi bj : Nat} {p : ByteArray} (h : St w0 W b2 b3 bs bi bj p) (hL : Lang.Laid w0) (hg : w0.heap.size ≤ b3) (q : ByteArray) : St w0 (W.setCell ⟨b3, 1, none⟩ (.string q)) b2 b3 bs bi bj q := by
  have far : ∀ {b : Nat} {c : Array Value} {t : TypeId}, W.heap[b]? = some (.cells c t (0, 0)) → t ≠ 63 → (W.setCell ⟨b3, 1, none⟩ (.string q)).heap[b]? = some (.cells c t (0, 0)) := fun hb ht => (Below.heap_setCell W ⟨b3, 1, none⟩ (.string q) _ (blk_ne hb h.j ht)).trans hb
  have hB := h.bel.setCell (p := ⟨b3, 1, none⟩) hg (.string q)
  exact ⟨far h.c (by decide), blk_set h.j 1 (.string q), ⟨far h.cfg.sp (by decide), far h.cfg.si (by decide)⟩, far h.sj (by decide), hB, hL.below hB⟩
set_option maxHeartbeats 1000000 in
set_option maxRecDepth 100000 in
theorem c68 (bs bi bj : Nat) (w : World) (hL : Lang.Laid w) (hC : Cfg w bs bi) (hj : w.heap[bj]? = some (.cells #[.int .i64 1] 3 (0, 0))) : Calls Tryz.prog 68 #[.agg #[.int .i64 1, .slice (some ⟨bs, 0, none⟩) 1 1, .int .i64 1, .int .i64 16], .agg #[.int .i64 1, .string ⟨#[]⟩, .int .i64 1, .int .i64 0, .int .i64 0, .slice (some ⟨bj, 0, none⟩) 1 1, .int .i64 1]] w fun e w' => e = .returned (.tuple #[.string fr0, .int .i64 0]) ∧ Below w.heap.size w w' := by
  have HP := Aside0.mk (St.begin ⟨#[]⟩ hL hC hj)
  go_enter Tryz.func68, Tryz.ntmps68
  go_upto_region 1 with (fail)
  obtain ⟨b2, b3, e2, e3, hs⟩ := HP.out
  have HS := Aside0.mk hs
  clear hs HP
  generalize (w.alloc (.cells #[.int .i64 1, .slice (some ⟨bs, 0, none⟩) 1 1, .int .i64 1, .int .i64 16] 51)).alloc (.cells #[.int .i64 1, .string ⟨#[]⟩, .int .i64 1, .int .i64 0, .int .i64 0, .slice (some ⟨bj, 0, none⟩) 1 1, .int .i64 1] 63) = W at HS ⊢
  rw [← e3, ← e2]
  clear e2 e3
  obtain ⟨x0, x1, x2, x3, y0, y1, y2, y3, y4, y5, y6, z0⟩ := HS.out.cells
  go_wp2_with (first
    | (go_at_call 67; refine (c67 bs bi bj _ HS.out.laid HS.out.cfg HS.out.sj).mono ?_; rintro e w1 ⟨rfl, hb⟩; have HS2 := Aside0.mk (HS.out.below hb); clear hb HS x0 x1 x2 x3 y0 y1 y2 y3 y4 y5 y6 z0; have HS := HS2; clear HS2; obtain ⟨x0, x1, x2, x3, y0, y1, y2, y3, y4, y5, y6, z0⟩ := HS.out.cells)
    | (go_at_call 105; refine (c105 bs bi bj _ HS.out.laid HS.out.cfg HS.out.sj).mono ?_; rintro e w1 ⟨rfl, hb⟩; have HS2 := Aside0.mk (HS.out.below hb); clear hb HS x0 x1 x2 x3 y0 y1 y2 y3 y4 y5 y6 z0; have HS := HS2; clear HS2; obtain ⟨x0, x1, x2, x3, y0, y1, y2, y3, y4, y5, y6, z0⟩ := HS.out.cells)
    | (go_at_call 106; refine (c106 1 ⟨#[]⟩ (.slice (some ⟨bj, 0, none⟩) 1 1) _).mono ?_; rintro e w1 ⟨rfl, hb⟩; have HS2 := Aside0.mk (HS.out.below hb); clear hb HS x0 x1 x2 x3 y0 y1 y2 y3 y4 y5 y6 z0; have HS := HS2; clear HS2; obtain ⟨x0, x1, x2, x3, y0, y1, y2, y3, y4, y5, y6, z0⟩ := HS.out.cells)
    | (go_at_call 107; refine (c107 bs bi bj _ HS.out.laid HS.out.cfg HS.out.sj).mono ?_; rintro e w1 ⟨rfl, hb⟩; have HS2 := Aside0.mk (HS.out.below hb); clear hb HS x0 x1 x2 x3 y0 y1 y2 y3 y4 y5 y6 z0; have HS := HS2; clear HS2; obtain ⟨x0, x1, x2, x3, y0, y1, y2, y3, y4, y5, y6, z0⟩ := HS.out.cells))
  go_ret2
  exact ⟨rfl, HS.out.bel⟩
set_option maxHeartbeats 1000000 in
set_option maxRecDepth 100000 in
theorem c32 (w : World) (hL : Lang.Laid w) : Calls Tryz.prog 32 #[] w fun e w' => e = .returned (.bool true) ∧ Below w.heap.size w w' := by
  have hs8 := fr_size
  have HL := Aside0.mk hL
  clear hL
  go_enter Tryz.func32, Tryz.ntmps32
  go_upto_region 3 with (fail)
  have HS := Aside0.mk (wk_begin w HL.out)
  have HGE := Aside0.mk (show w.heap.size ≤ w.heap.size + 1 + 1 + 1 + 1 by omega)
  generalize (((((w.alloc (.cells #[.int .i64 1] 3)).alloc (.cells #[.int .i64 1, .string ⟨#[]⟩, .slice (some ⟨w.heap.size, 0, none⟩) 1 1] 123)).alloc (.cells #[.int .i64 1, .slice (some ⟨w.heap.size + 1, 0, none⟩) 1 1, .int .i64 1, .int .i64 16] 51)).alloc (.cells #[.int .i64 1] 3)).alloc (.cells #[.int .i64 1, .string ⟨#[98]⟩, .int .i64 1, .int .i64 0, .int .i64 0, .slice (some ⟨w.heap.size + 1 + 1 + 1, 0, none⟩) 1 1, .int .i64 1] 63)) = W at HS ⊢
  generalize w.heap.size + 1 + 1 + 1 + 1 = b2 at HS HGE ⊢
  generalize w.heap.size + 1 + 1 + 1 = bj at HS ⊢
  generalize w.heap.size + 1 + 1 = b1 at HS ⊢
  generalize w.heap.size + 1 = bs at HS ⊢
  obtain ⟨bi, ei⟩ : ∃ bi, bi = w.heap.size := ⟨_, rfl⟩
  have HS2 : Aside0 (St w W b1 b2 bs bi bj ⟨#[98]⟩) := ⟨ei ▸ HS.out⟩
  rw [← ei]
  clear ei HS
  have HS := HS2
  clear HS2
  obtain ⟨x0, x1, x2, x3, y0, y1, y2, y3, y4, y5, y6, z0⟩ := HS.out.cells
  go_upto_region 4 with (first
    | (go_at_call 67; refine (c67b bs bi bj _ HS.out.laid HS.out.cfg HS.out.sj).mono ?_; rintro e w1 ⟨rfl, hb⟩; have HS2 := Aside0.mk (HS.out.below hb); clear hb HS x0 x1 x2 x3 y0 y1 y2 y3 y4 y5 y6 z0; have HS := HS2; clear HS2; obtain ⟨x0, x1, x2, x3, y0, y1, y2, y3, y4, y5, y6, z0⟩ := HS.out.cells)
    | (go_at_call 27; refine (PJobBytes.thresherlaw14_num.calls 7 7 _ rfl).mono ?_; rintro e w2 ⟨rfl, ⟨nd, rfl⟩⟩))
  have HS3 := Aside0.mk (HS.out.below (W' := w1.drewN nd) (pw_below_drewN (Below.refl _ _) nd))
  clear HS x0 x1 x2 x3 y0 y1 y2 y3 y4 y5 y6 z0
  generalize w1.drewN nd = W3 at HS3 ⊢
  have HS := HS3
  clear HS3
  obtain ⟨x0, x1, x2, x3, y0, y1, y2, y3, y4, y5, y6, z0⟩ := HS.out.cells
  have f1 := blk_frozen HS.out.j 1
  go_upto_region 5 with (fail)
  have HS3 := Aside0.mk (HS.out.setp HL.out HGE.out ⟨#[]⟩)
  clear HS x0 x1 x2 x3 y0 y1 y2 y3 y4 y5 y6 z0 f1
  generalize W3.setCell ⟨b2, 1, none⟩ (.string ⟨#[]⟩) = W4 at HS3 ⊢
  have HS := HS3
  clear HS3
  obtain ⟨x0, x1, x2, x3, y0, y1, y2, y3, y4, y5, y6, z0⟩ := HS.out.cells
  go_wp2_with (first
    | (go_at_call 68; refine (c68 bs bi bj _ HS.out.laid HS.out.cfg HS.out.sj).mono ?_; rintro e w1 ⟨rfl, hb⟩; have HS2 := Aside0.mk (HS.out.below hb); clear hb HS x0 x1 x2 x3 y0 y1 y2 y3 y4 y5 y6 z0; have HS := HS2; clear HS2; obtain ⟨x0, x1, x2, x3, y0, y1, y2, y3, y4, y5, y6, z0⟩ := HS.out.cells)
    | (go_at_call 27; refine (PJobBytes.thresherlaw14_num.calls 0 0 _ rfl).mono ?_; rintro e w2 ⟨rfl, ⟨nd2, rfl⟩⟩))
  go_ret
  exact ⟨rfl, pw_below_drewN HS.out.bel _⟩
end Go.Proofs.YtpepmmfhanaipaaGreatDoor.Wk
end
