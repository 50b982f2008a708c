-- Put together by mergex.py out of this workplace's texts.
import Derived.Test.YtpepmmfhanaipaaGreatDoorJWd
import Derived.Test.YtpepmmfhanaipaaGreatDoorJPAuxx2
import Derived.Deep.DeepMust
import Derived.BigRegion
import Derived.Laws.ResultCell
import Derived.Laws.MakeOwn
section
namespace Go.Proofs.YtpepmmfhanaipaaGreatDoor.Wk
open Go.RowKit Go.Shelf Go.Proofs.YtpepmmfhanaipaaGreatDoorW.PrintWords Go.Proofs.YtpepmmfhanaipaaGreatDoorW.PrintLast Go.Proofs.YtpepmmfhanaipaaGreatDoorW.PrintMore
set_option linter.unusedVariables false
set_option linter.unusedSimpArgs false
theorem ret78 {fn : Func} {p u : Tmp} (h : fn.results = #[.cell p 78, .tmp u]) {tmps : Array Value} {w : World} {g : Nat} {t : TypeId} {cs : Array Value} {fr : Nat × Nat} (hp : tmps.getD p undef = .pointer (some ⟨g, 0, none⟩)) (hg : w.heap[g]? = some (.cells cs t fr)) (hc : cs.size = 2) :
    (results fn tmps).run Tryz.prog w = .ok (.tuple #[.agg cs, tmps.getD u undef]) w := by
  have hi : (Tryz.prog.info? 78).map (·.size) = some 2 := by kernel_rfl
  rw [results_cell_tmp h, hp]
  have := run_loadVar_row (P := Tryz.prog) w g t 78 cs fr _ hg Tryz.underlying78 rfl (by rw [hc]; exact hi)
  simp only [asAddr, Sem.run_pure, Result.andThen_ok, this]
theorem ret123 {fn : Func} {p u : Tmp} (h : fn.results = #[.cell p 123, .tmp u]) {tmps : Array Value} {w : World} {g : Nat} {t : TypeId} {cs : Array Value} {fr : Nat × Nat} (hp : tmps.getD p undef = .pointer (some ⟨g, 0, none⟩)) (hg : w.heap[g]? = some (.cells cs t fr)) (hc : cs.size = 3) :
    (results fn tmps).run Tryz.prog w = .ok (.tuple #[.agg cs, tmps.getD u undef]) w := by
  have hi : (Tryz.prog.info? 123).map (·.size) = some 3 := by kernel_rfl
  rw [results_cell_tmp h, hp]
  have := run_loadVar_row (P := Tryz.prog) w g t 123 cs fr _ hg Tryz.underlying123 rfl (by rw [hc]; exact hi)
  simp only [asAddr, Sem.run_pure, Result.andThen_ok, this]
set_option maxHeartbeats 1000000 in
set_option maxRecDepth 100000 in
theorem c41 (g : Nat) (x0 x1 x3 : Value) (w : World) (hg : w.heap[g]? = some (.cells #[x0, x1, .slice none 0 0, x3] 86 (0, 0))) : Calls Tryz.prog 41 #[.pointer (some ⟨g, 0, none⟩)] w fun e w' => e = .returned (.tuple #[.agg #[.int .i64 0, .string ⟨#[]⟩], .bool false]) ∧ Below w.heap.size w w' := by
  have HG := Aside0.mk hg
  clear hg
  go_enter Tryz.func41, Tryz.ntmps41
  go_upto_region 1 with (fail)
  have hk := Aside0.mk (heap_alloc_new w (.cells #[.int .i64 0, .string ⟨#[]⟩] 78))
  have HB := Aside0.mk (below_alloc (Below.refl w.heap.size w) (.cells #[.int .i64 0, .string ⟨#[]⟩] 78))
  have hg2 := blk_alloc HG.out (.cells #[.int .i64 0, .string ⟨#[]⟩] 78)
  have k2 := blk_cell hg2 2
  simp at k2
  generalize w.alloc (.cells #[.int .i64 0, .string ⟨#[]⟩] 78) = W at hk HB hg2 k2 ⊢
  have HGE := Aside0.mk (Nat.le_refl w.heap.size)
  obtain ⟨b, hb⟩ : ∃ b, b = w.heap.size := ⟨_, rfl⟩
  replace hk : Aside0 (W.heap[b]? = _) := ⟨hb ▸ hk.out⟩
  replace HGE : Aside0 (w.heap.size ≤ b) := ⟨Nat.le_of_eq hb.symm⟩
  rw [← hb]
  clear hb hg2
  go_wp2
  go_loopg [3, 11] 1 (fun kq v3 v11 w' => v3 = .bool false ∧ v11 = .int .i64 0 ∧ Aside0 (kq = 1) ∧ w' = W)
  case atStart => exact ⟨rfl, rfl, ⟨rfl⟩, rfl⟩
  case round =>
    obtain ⟨rfl, rfl, HK, rfl⟩ := hrel
    cases gk with
    | zero => exact absurd HK.out (by decide)
    | succ k1 =>
      clear HK
      obtain ⟨m0, m1⟩ := And.intro (blk_cell hk.out 0) (blk_cell hk.out 1)
      obtain ⟨f0, f1⟩ := And.intro (blk_frozen hk.out 0) (blk_frozen hk.out 1)
      simp at m0 m1
      go_wp2
      have q0 := blk_set (blk_set hk.out 0 (.int .i64 0)) 1 (.string ⟨#[]⟩)
      have qB := (HB.out.setCell (p := ⟨b, 0, none⟩) HGE.out (.int .i64 0)).setCell (p := ⟨b, 1, none⟩) HGE.out (.string ⟨#[]⟩)
      (try simp only [Exit.inBlock, Exit.then])
      refine bodyPost_ret (v := .tuple #[.agg #[.int .i64 0, .string ⟨#[]⟩], .bool false]) (by exact ret78 (fn := Tryz.f41) (p := 2) (u := 3) rfl rfl q0 rfl) rfl ⟨rfl, qB⟩
set_option maxHeartbeats 1000000 in
set_option maxRecDepth 100000 in
theorem c14 (w : World) : Calls Tryz.prog 14 #[.int .i64 1, .int .i64 0, .slice none 0 0] w fun e w' => e = .returned (.tuple #[.slice none 0 0, .int .i64 0]) ∧ Below w.heap.size w w' := by
  have HB := Aside0.mk (Below.refl w.heap.size w)
  go_enter Tryz.func14, Tryz.ntmps14
  go_upto_region 4 with (first
    | (go_at_call 39; refine (c39 _).mono ?_; rintro e w1 ⟨rfl, hb⟩; have n0_ := Aside0.mk (below_step (by repeat (first | (with_reducible first | exact HB.out | apply below_alloc | apply pw_below_drewN | apply below_drew1 | apply below_drew) | exact HB.out)) hb); clear HB hb; have HB := n0_; clear n0_)
    | (go_at_call 40; refine (c40 _).mono ?_; rintro e w2 ⟨rfl, hb⟩; have n0_ := Aside0.mk (below_step (by repeat (first | (with_reducible first | exact HB.out | apply below_alloc | apply pw_below_drewN | apply below_drew1 | apply below_drew) | exact HB.out)) hb); clear HB hb; have HB := n0_; clear n0_))
  have HG := Aside0.mk (heap_alloc_new w2 (.cells #[.int .i64 1, .int .i64 0, .slice none 0 0, .bool false] 86))
  have HB2 := Aside0.mk (below_alloc HB.out (.cells #[.int .i64 1, .int .i64 0, .slice none 0 0, .bool false] 86))
  generalize w2.alloc (.cells #[.int .i64 1, .int .i64 0, .slice none 0 0, .bool false] 86) = W at HG HB2 ⊢
  generalize w2.heap.size = g at HG ⊢
  clear HB
  have HB := HB2
  clear HB2
  go_wp2_with (first | (go_at_call 41; refine (c41 g _ _ _ _ HG.out).mono ?_; rintro e w3 ⟨rfl, hb⟩; have HG3 := Aside0.mk ((hb.block _ (lt_blk HG.out)).trans HG.out); have n0_ := Aside0.mk (below_step (by repeat (first | (with_reducible first | exact HB.out | apply below_alloc | apply pw_below_drewN | apply below_drew1 | apply below_drew) | exact HB.out)) hb); clear HB hb; have HB := n0_; clear n0_))
  have HG4 := Aside0.mk (blk_alloc HG3.out (.cells #[.int .i64 0, .string ⟨#[]⟩] 78))
  have HB4 := Aside0.mk (below_alloc HB.out (.cells #[.int .i64 0, .string ⟨#[]⟩] 78))
  generalize w3.alloc (.cells #[.int .i64 0, .string ⟨#[]⟩] 78) = W4 at HG4 HB4 ⊢
  clear HB HG3 HG
  generalize w3.heap.size = kb
  go_loopg [9, 10, 11] 1 (fun kq v9 v10 v11 w' => v9 = .slice none 0 0 ∧ v11 = .bool false ∧ Aside0 (kq = 1) ∧ w' = W4)
  case atStart => exact ⟨rfl, rfl, ⟨rfl⟩, rfl⟩
  case round =>
    obtain ⟨rfl, rfl, HK, rfl⟩ := hrel
    cases gk with
    | zero => exact absurd HK.out (by decide)
    | succ k1 =>
      clear HK
      have m3 := blk_cell HG4.out 3
      simp at m3
      go_wp2
      go_ret2
      exact ⟨rfl, HB4.out⟩
end Go.Proofs.YtpepmmfhanaipaaGreatDoor.Wk
end
section
namespace Go.Proofs.YtpepmmfhanaipaaGreatDoor.Wk
open Go.RowKit Go.Shelf Go.Proofs.YtpepmmfhanaipaaGreatDoorW.PrintWords Go.Proofs.YtpepmmfhanaipaaGreatDoorW.PrintLast Go.Proofs.YtpepmmfhanaipaaGreatDoorW.PrintMore
set_option linter.unusedVariables false
set_option linter.unusedSimpArgs false
def fr0 : ByteArray := (PAux.frame_Bytes.f 100 ⟨#[]⟩).elim ⟨#[]⟩ (fun x => x.1)
theorem fr_eq : PAux.frame_Bytes.f 100 ⟨#[]⟩ = some (fr0, 0) := by kernel_rfl
theorem fr_size : fr0.size = 8 := by kernel_rfl
theorem fr_add : (⟨#[]⟩ : ByteArray) ++ fr0 = fr0 := by kernel_rfl
theorem info37 : (Tryz.prog.info? 37).map (fun i => (i.zero, i.size, i.bytes)) = some (some (.slice none 0 0), 1, 24) := by kernel_rfl
theorem mk22 (w : World) : (Instr.makeSlice 22 (.int .i64 1) (.int .i64 1)).run Tryz.prog w = .ok (.slice (some ⟨w.heap.size, 0, none⟩) 1 1) (w.alloc (.cells #[.slice none 0 0] 37)) := by
  obtain ⟨i0, hi, hz0, hz1, hz2⟩ := info_parts info37
  have := run_makeSlice (w := w) 22 37 i0 (.slice none 0 0) Tryz.underlying22 hi hz0 .i64 .i64 1 1 (by decide) (by decide) (by rw [hz1]; decide) (by rw [hz2]; decide) (by decide)
  rw [hz1, show madeCells (Value.slice none 0 0).cells (Int.toNat 1 * 1) = #[.slice none 0 0] by kernel_rfl] at this
  exact this
set_option maxHeartbeats 1000000 in
set_option maxRecDepth 100000 in
theorem c157 (w : World) : Calls Tryz.prog 157 #[.string ⟨#[]⟩] w fun e w' => e = .returned (.tuple #[.slice none 0 0, .int .i64 0]) ∧ Below w.heap.size w w' := by
  have HB := Aside0.mk (Below.refl w.heap.size w)
  go_enter Tryz.func157, Tryz.ntmps157
  go_wp2
  go_loopg [0, 4] 1 (fun kq v0 v4 w' => v0 = .string ⟨#[]⟩ ∧ v4 = .slice none 0 0 ∧ Aside0 (kq = 1) ∧ Aside0 (Below w.heap.size w w'))
  case atStart => exact ⟨by first | rfl | simp, by first | rfl | simp, ⟨rfl⟩, ⟨(by repeat (first | (with_reducible first | exact HB.out | apply below_alloc | apply pw_below_drewN | apply below_drew1 | apply below_drew) | exact HB.out))⟩⟩
  case round =>
    clear HB
    obtain ⟨rfl, rfl, HK, HB⟩ := hrel
    cases gk with
    | zero => exact absurd HK.out (by decide)
    | succ k1 =>
      clear HK
      go_wp2
      go_ret2
      exact ⟨rfl, HB.out⟩
set_option maxHeartbeats 1000000 in
set_option maxRecDepth 100000 in
theorem c161 (w : World) : Calls Tryz.prog 161 #[.slice none 0 0, .int .i64 1] w fun e w' => ∃ b, e = .returned (.tuple #[.slice (some ⟨b, 0, none⟩) 1 1, .int .i64 0]) ∧ w'.heap[b]? = some (.cells #[.slice none 0 0] 37 (0, 0)) ∧ Below w.heap.size w w' := by
  have HB := Aside0.mk (Below.refl w.heap.size w)
  have hmk := mk22
  go_enter Tryz.func161, Tryz.ntmps161
  go_upto_region 4 with (first | (go_at_call 177; refine (c177 _).mono ?_; rintro e w1 ⟨rfl, hb⟩; have n0_ := Aside0.mk (below_step (by repeat (first | (with_reducible first | exact HB.out | apply below_alloc | apply pw_below_drewN | apply below_drew1 | apply below_drew) | exact HB.out)) hb); clear HB hb; have HB := n0_; clear n0_) | (go_at_call 115; refine (c115 _).mono ?_; rintro e w1 ⟨rfl, hb⟩; have n0_ := Aside0.mk (below_step (by repeat (first | (with_reducible first | exact HB.out | apply below_alloc | apply pw_below_drewN | apply below_drew1 | apply below_drew) | exact HB.out)) hb); clear HB hb; have HB := n0_; clear n0_))
  clear hmk
  have HK := Aside0.mk (heap_alloc_new w1 (.cells #[.slice none 0 0] 37))
  have HB2 := Aside0.mk (below_alloc HB.out (.cells #[.slice none 0 0] 37))
  generalize w1.alloc (.cells #[.slice none 0 0] 37) = W at HK HB2 ⊢
  clear HB
  have HB := HB2
  clear HB2
  generalize w1.heap.size = b at HK ⊢
  go_wp2_with (first | (go_at_call 178; refine (c178 _).mono ?_; rintro e w3 ⟨rfl, hb⟩; have HK3 := Aside0.mk ((hb.block _ (lt_blk HK.out)).trans HK.out); have n0_ := Aside0.mk (below_step (by repeat (first | (with_reducible first | exact HB.out | apply below_alloc | apply pw_below_drewN | apply below_drew1 | apply below_drew) | exact HB.out)) hb); clear HB hb; have HB := n0_; clear n0_))
  go_loopg [24] 1 (fun kq v24 w' => v24 = .int .i64 0 ∧ Aside0 (kq = 1) ∧ w' = w3)
  case atStart => exact ⟨rfl, ⟨rfl⟩, rfl⟩
  case round =>
    obtain ⟨rfl, HQ, rfl⟩ := hrel
    cases gk with
    | zero => exact absurd HQ.out (by decide)
    | succ k1 =>
      clear HQ
      go_wp2
      go_ret2
      exact ⟨b, rfl, HK3.out, HB.out⟩
set_option maxHeartbeats 1000000 in
set_option maxRecDepth 100000 in
theorem c93 (w : World) : Calls Tryz.prog 93 #[.string ⟨#[]⟩] w fun e w' => e = .returned (.tuple #[.string fr0, .int .i64 0]) ∧ Below w.heap.size w w' :=
  PAux.frame_Bytes.calls 100 ⟨#[]⟩ fr0 0 w fr_eq
set_option maxHeartbeats 1000000 in
set_option maxRecDepth 100000 in
theorem c138 (w : World) : Calls Tryz.prog 138 #[.int .i64 1, .int .i64 0, .int .i64 1, .slice none 0 0] w fun e w' => e = .returned (.tuple #[.string fr0, .int .i64 0]) ∧ Below w.heap.size w w' := by
  have HB := Aside0.mk (Below.refl w.heap.size w)
  have hs8 := fr_size
  go_enter Tryz.func138, Tryz.ntmps138
  go_wp2_with (first
    | (go_at_call 161; refine (c161 _).mono ?_; rintro e w1 ⟨b, rfl, hk, hb⟩; have HK := Aside0.mk hk; clear hk; have n0_ := Aside0.mk (below_step (by repeat (first | (with_reducible first | exact HB.out | apply below_alloc | apply pw_below_drewN | apply below_drew1 | apply below_drew) | exact HB.out)) hb); clear HB hb; have HB := n0_; clear n0_)
    | (go_at_call 81; refine (c81 _).mono ?_; rintro e w2 ⟨rfl, hb⟩; have HK2 := Aside0.mk ((hb.block _ (lt_blk HK.out)).trans HK.out); have n0_ := Aside0.mk (below_step (by repeat (first | (with_reducible first | exact HB.out | apply below_alloc | apply pw_below_drewN | apply below_drew1 | apply below_drew) | exact HB.out)) hb); clear HB hb; have HB := n0_; clear n0_))
  go_loopg [12, 36] 2 (fun kq v12 v36 w' => ((v12 = .string ⟨#[]⟩ ∧ v36 = .int .i64 0 ∧ kq = 2) ∨ (v12 = .string fr0 ∧ v36 = .int .i64 1 ∧ kq = 1)) ∧ Aside0 (Below w.heap.size w w') ∧ Aside0 (w'.heap[b]? = some (.cells #[.slice none 0 0] 37 (0, 0))))
  case atStart => exact ⟨.inl ⟨rfl, rfl, rfl⟩, HB, HK2⟩
  case round =>
    clear HB HK HK2
    obtain ⟨⟨rfl, rfl, HQ⟩ | ⟨rfl, rfl, HQ⟩, HB, HK⟩ := hrel
    · cases gk with
      | zero => cases HQ
      | succ k1 =>
        cases k1 with
        | zero => cases HQ
        | succ k2 =>
          obtain rfl : k2 = 0 := by omega
          clear HQ
          have k0 := blk_cell HK.out 0
          simp at k0
          go_wp2_with (first
            | (go_at_call 92; refine (c92 _).mono ?_; rintro e w3 ⟨rfl, hb⟩; have HK3 := Aside0.mk ((hb.block _ (lt_blk HK.out)).trans HK.out); have n0_ := Aside0.mk (below_step (by repeat (first | (with_reducible first | exact HB.out | apply below_alloc | apply pw_below_drewN | apply below_drew1 | apply below_drew) | exact HB.out)) hb); clear HB hb; have HB := n0_; clear n0_)
            | (go_at_call 93; refine (c93 _).mono ?_; rintro e w4 ⟨rfl, hb⟩; have HK4 := Aside0.mk ((hb.block _ (lt_blk HK3.out)).trans HK3.out); have n0_ := Aside0.mk (below_step (by repeat (first | (with_reducible first | exact HB.out | apply below_alloc | apply pw_below_drewN | apply below_drew1 | apply below_drew) | exact HB.out)) hb); clear HB hb; have HB := n0_; clear n0_))
          go_roundg 1
          case measure => omega
          case rel => exact ⟨.inr ⟨congrArg Value.string fr_add, rfl, rfl⟩, HB, HK4⟩
    · cases gk with
      | zero => cases HQ
      | succ k1 =>
        clear HQ
        go_wp2
        go_ret2
        exact ⟨rfl, HB.out⟩
set_option maxHeartbeats 1000000 in
set_option maxRecDepth 100000 in
theorem c106 (id : Int) (p : ByteArray) (sp : Value) (w : World) : Calls Tryz.prog 106 #[.agg #[.int .i64 id, .string p, .int .i64 1, .int .i64 0, .int .i64 0, sp, .int .i64 1], .slice none 0 0] w fun e w' => e = .returned (.tuple #[.string fr0, .int .i64 0]) ∧ Below w.heap.size w w' := by
  go_enter Tryz.func106, Tryz.ntmps106
  go_upto_region 1 with (fail)
  have HK := Aside0.mk (heap_alloc_new w (.cells #[.int .i64 id, .string p, .int .i64 1, .int .i64 0, .int .i64 0, sp, .int .i64 1] 63))
  have HB := Aside0.mk (below_alloc (Below.refl w.heap.size w) (.cells #[.int .i64 id, .string p, .int .i64 1, .int .i64 0, .int .i64 0, sp, .int .i64 1] 63))
  generalize w.alloc (.cells #[.int .i64 id, .string p, .int .i64 1, .int .i64 0, .int .i64 0, sp, .int .i64 1] 63) = W at HK HB ⊢
  obtain ⟨b, hb⟩ : ∃ b, b = w.heap.size := ⟨_, rfl⟩
  replace HK : Aside0 (W.heap[b]? = _) := ⟨hb ▸ HK.out⟩
  rw [← hb]
  clear hb
  obtain ⟨m0, m1, m2, m3, m4, m5, m6, -⟩ := PJobBytes.blkall_7 HK.out
  go_wp2_with (first | (go_at_call 37; refine (c37 _).mono ?_; rintro e w1 ⟨rfl, hb⟩; have HK3 := Aside0.mk ((hb.block _ (lt_blk HK.out)).trans HK.out); clear HK m0 m1 m2 m3 m4 m5 m6; have HK := HK3; clear HK3; obtain ⟨m0, m1, m2, m3, m4, m5, m6, -⟩ := PJobBytes.blkall_7 HK.out; have n0_ := Aside0.mk (below_step (by repeat (first | (with_reducible first | exact HB.out | apply below_alloc | apply pw_below_drewN | apply below_drew1 | apply below_drew) | exact HB.out)) hb); clear HB hb; have HB := n0_; clear n0_) | (go_at_call 138; refine (c138 _).mono ?_; rintro e w1 ⟨rfl, hb⟩; have HK3 := Aside0.mk ((hb.block _ (lt_blk HK.out)).trans HK.out); clear HK m0 m1 m2 m3 m4 m5 m6; have HK := HK3; clear HK3; obtain ⟨m0, m1, m2, m3, m4, m5, m6, -⟩ := PJobBytes.blkall_7 HK.out; have n0_ := Aside0.mk (below_step (by repeat (first | (with_reducible first | exact HB.out | apply below_alloc | apply pw_below_drewN | apply below_drew1 | apply below_drew) | exact HB.out)) hb); clear HB hb; have HB := n0_; clear n0_))
  go_ret2
  exact ⟨rfl, HB.out⟩
end Go.Proofs.YtpepmmfhanaipaaGreatDoor.Wk
end
