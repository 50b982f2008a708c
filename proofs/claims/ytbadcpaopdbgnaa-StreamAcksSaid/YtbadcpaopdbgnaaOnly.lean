/-
  Walk: a script of one kind of calls is a script of which StreamExact holds.
-/
import Derived.Test.YtbadcpaopdbgnaaPStreamExactx3
import Derived.Deep.DeepMust
namespace Go.Proofs.Ytbadcpaopdbgnaa.PStreamExact
open Go.RowKit Go.Proofs.YtbadcpaopdbgnaaW.PrintWords Go.Proofs.YtbadcpaopdbgnaaW.PrintLast Go.Proofs.YtbadcpaopdbgnaaW.PrintMore
set_option linter.unusedVariables false
set_option linter.unusedSimpArgs false

theorem blk_lt2 {w : World} {g : Nat} {o : Obj} (h : w.heap[g]? = some o) : g < w.heap.size := by
  rcases Nat.lt_or_ge g w.heap.size with h' | h'
  · exact h'
  · simp [Array.getElem?_eq_none h'] at h
set_option maxHeartbeats 8000000 in
set_option maxRecDepth 100000 in
theorem only_walk (x1 : Int) (p0 : ByteArray) (p1 p2 p3 p4 p5 : Int) (p6 : ByteArray) (p7 : Bool) (A0 : Option Addr) (c0 : Nat) (L : List S38) (w : World) (hr0 : Kd.C k38 w A0 L.length L) (hc0 : L.length ≤ c0) (hl : L.length ≤ 9000) (hz : ∀ x ∈ L, x.f4.size ≤ 140737488351232)
    (hH : ∀ W : World, Kd.C k38 W A0 L.length L → Calls Try.prog 14 #[.agg #[.string p0, .int .i64 p1, .int .i64 p2, .int .i64 p3, .int .i64 p4, .int .u32 p5, .string p6, .bool p7, .slice A0 L.length c0]] W fun e w' => e = .returned (.bool false) ∧ Below W.heap.size W w')
    (hE : ∀ (W : World) (A : Option Addr) (c : Nat) (M : List S38), Kd.C k38 W A M.length M → M.length ≤ c → M.length ≤ 9000 → (∀ x ∈ M, x.f4.size ≤ 140737488351232) → Calls Try.prog 5 #[.agg #[.string p0, .int .i64 p1, .int .i64 p2, .int .i64 p3, .int .i64 p4, .int .u32 p5, .string p6, .bool p7, .slice A M.length c]] W fun e w' => e = .returned (.bool true) ∧ Below W.heap.size W w') :
    Calls Try.prog 33 #[.agg #[.string p0, .int .i64 p1, .int .i64 p2, .int .i64 p3, .int .i64 p4, .int .u32 p5, .string p6, .bool p7, .slice A0 L.length c0], .int .i64 x1] w fun e w' => e = .returned (.bool true) ∧ Below w.heap.size w w' := by
  have HR := Aside0.mk hr0
  have HC := Aside0.mk hc0
  have HZ := Aside0.mk hz
  have HH := Aside0.mk hH
  have HE := Aside0.mk hE
  obtain ⟨n, hn⟩ : ∃ n, n = L.length := ⟨_, rfl⟩
  rw [← hn] at HR HC HH hl ⊢
  have HN := Aside0.mk hn
  clear hr0 hc0 hz hH hE hn
  go_enter Try.func33, Try.ntmps33
  go_upto_region 3 with (first | (go_at_call 14; refine (HH.out _ (Kd.C_below HR.out ((Below.refl _ w).alloc (Nat.le_refl _) _))).mono ?_; rintro e w1 ⟨rfl, hb⟩; have HB1 := Aside0.mk hb; clear hb))
  obtain ⟨b0, hb0⟩ : ∃ b0, b0 = w.heap.size := ⟨_, rfl⟩
  have hp0 := (HB1.out.block b0 (by rw [hb0]; simp)).trans (hb0 ▸ heap_alloc_new w _)
  have HB2 := Aside0.mk (((Below.refl _ w).alloc (Nat.le_refl _) _).trans (HB1.out.mono (by simp)))
  rw [← hb0]
  have HB0 := Aside0.mk hb0
  have HP0 := Aside0.mk hp0
  clear HB1 hb0
  have d0 := cell_of_row w1 b0 0 _ 35 _ hp0
  have d1 := cell_of_row w1 b0 1 _ 35 _ hp0
  have d2 := cell_of_row w1 b0 2 _ 35 _ hp0
  have d3 := cell_of_row w1 b0 3 _ 35 _ hp0
  have d4 := cell_of_row w1 b0 4 _ 35 _ hp0
  have d5 := cell_of_row w1 b0 5 _ 35 _ hp0
  have d6 := cell_of_row w1 b0 6 _ 35 _ hp0
  have d7 := cell_of_row w1 b0 7 _ 35 _ hp0
  clear hp0
  go_upto_region 4 with (fail)
  clear d0 d1 d2 d3 d4 d5 d6 d7
  obtain ⟨b1, hb1⟩ : ∃ b1, b1 = w1.heap.size := ⟨_, rfl⟩
  have hq0 := hb1 ▸ heap_alloc_new w1 (.cells #[.string p0, .int .i64 p1, .int .i64 p2, .int .i64 p3, .int .i64 p4, .int .u32 p5, .string p6, .bool p7, .slice none 0 0] 35)
  have hp1 := (heap_alloc_old w1 (.cells #[.string p0, .int .i64 p1, .int .i64 p2, .int .i64 p3, .int .i64 p4, .int .u32 p5, .string p6, .bool p7, .slice none 0 0] 35) (blk_lt2 HP0.out)).trans HP0.out
  have hB3 := HB2.out.alloc HB2.out.size (.cells #[.string p0, .int .i64 p1, .int .i64 p2, .int .i64 p3, .int .i64 p4, .int .u32 p5, .string p6, .bool p7, .slice none 0 0] 35)
  have hb01 : b0 ≠ b1 := by have := blk_lt2 HP0.out; omega
  have hwb1 : w.heap.size ≤ b1 := by rw [hb1]; exact HB2.out.size
  rw [← hb1]
  clear hb1
  generalize w1.alloc (.cells #[.string p0, .int .i64 p1, .int .i64 p2, .int .i64 p3, .int .i64 p4, .int .u32 p5, .string p6, .bool p7, .slice none 0 0] 35) = W0 at hq0 hp1 hB3 ⊢
  have HB3 := Aside0.mk hB3
  have HQ0 := Aside0.mk hq0
  have HP1 := Aside0.mk hp1
  have HD := Aside0.mk hb01
  have HWB := Aside0.mk hwb1
  clear hq0 hp1 hB3 HB2 HP0 hb01 hwb1
  go_wp2
  go_loopg [6] (n + 1) (fun kq v6 w' => ∃ (i : Nat), v6 = .int .i64 (i : Int) ∧ Aside0 (i + kq = n + 1 ∧ i ≤ n) ∧ Aside0 (Below w.heap.size w w') ∧ Aside0 (w'.heap[b0]? = some (.cells #[.string p0, .int .i64 p1, .int .i64 p2, .int .i64 p3, .int .i64 p4, .int .u32 p5, .string p6, .bool p7, .slice A0 n c0] 35 (0, 0))) ∧
    Aside0 (∃ v M, w'.heap[b1]? = some (.cells #[.string p0, .int .i64 p1, .int .i64 p2, .int .i64 p3, .int .i64 p4, .int .u32 p5, .string p6, .bool p7, v] 35 (0, 0)) ∧ Kd.R k38 38 w' w.heap.size (fun _ => True) v M ∧ M.length = i ∧ ∀ x ∈ M, x.f4.size ≤ 140737488351232))
  case atStart => exact ⟨0, rfl, ⟨by omega⟩, HB3, HP1, ⟨_, [], HQ0.out, Kd.R_nil _ _ _ _ _, rfl, by simp⟩⟩
  case round =>
    clear HB3 HP1 HQ0
    obtain ⟨i, rfl, HI, HB, HP, HQ⟩ := hrel
    cases gk with
    | zero => have := HI.out; omega
    | succ k1 =>
      obtain ⟨v, M, hq, hR, rfl, hMz⟩ := HQ.out
      clear HQ
      have HQ := Aside0.mk hq
      obtain ⟨A, c, rfl, hAc, hC⟩ := Kd.R_reads hR
      have HRR := Aside0.mk hR
      have HMC := Aside0.mk hC
      have HMZ := Aside0.mk hMz
      have HAC := Aside0.mk hAc
      have d8 := cell_of_row wr b0 8 _ 35 _ HP.out
      have e8 := cell_of_row wr b1 8 _ 35 _ HQ.out
      clear hq hR hC hMz hAc
      by_cases hi : M.length < n
      · have hib := decide_eq_true (show (M.length : Int) < (n : Int) by omega)
        have hib2 := decide_eq_true hi
        have p1' := eq_true (show 0 ≤ (M.length : Int) by omega)
        have q1' := eq_true (show (M.length : Int) < (n : Int) by omega)
        obtain ⟨ad, eA, x0, x1', x2, x3, x4, x5⟩ := at_T38 (Kd.C_below HR.out HB.out) (M.length : Int) (by omega) (by omega)
        subst eA
        simp only [Int.toNat_natCast] at x0 x1' x2 x3 x4 x5
        have hx := HZ.out (rd_T38 L (M.length : Int)) (by unfold rd_T38; rw [List.getD_eq_getElem?_getD, List.getElem?_eq_getElem (by have := HN.out; simpa using (by omega : M.length < L.length))]; exact List.getElem_mem _)
        generalize rd_T38 L (M.length : Int) = x at x0 x1' x2 x3 x4 x5 hx
        have HX := Aside0.mk hx
        clear hx
        by_cases hodd : (M.length : Int) % 2 = 1
        · have ho1 : ((M.length : Int) % 2 == 1) = true := by simpa using hodd
          clear hodd
          go_upto_region 11 with (fail)
          obtain ⟨g, hg⟩ : ∃ g, g = wr.heap.size := ⟨_, rfl⟩
          have ha0 := hg ▸ heap_alloc_new wr (.cells #[.int .i64 x1, .int .i64 x.f1, .int .i64 x.f2, .int .u32 x.f3, .string x.f4, .bool x.f5] 38)
          have hq1 := (heap_alloc_old wr (.cells #[.int .i64 x1, .int .i64 x.f1, .int .i64 x.f2, .int .u32 x.f3, .string x.f4, .bool x.f5] 38) (blk_lt2 HQ.out)).trans HQ.out
          have hp1 := (heap_alloc_old wr (.cells #[.int .i64 x1, .int .i64 x.f1, .int .i64 x.f2, .int .u32 x.f3, .string x.f4, .bool x.f5] 38) (blk_lt2 HP.out)).trans HP.out
          have hB1 := HB.out.alloc HB.out.size (.cells #[.int .i64 x1, .int .i64 x.f1, .int .i64 x.f2, .int .u32 x.f3, .string x.f4, .bool x.f5] 38)
          have hR1 := Kd.R_below HRR.out ((Below.refl _ wr).alloc (Nat.le_refl _) (.cells #[.int .i64 x1, .int .i64 x.f1, .int .i64 x.f2, .int .u32 x.f3, .string x.f4, .bool x.f5] 38))
          rw [← hg]
          clear hg
          generalize wr.alloc (.cells #[.int .i64 x1, .int .i64 x.f1, .int .i64 x.f2, .int .u32 x.f3, .string x.f4, .bool x.f5] 38) = W at ha0 hq1 hp1 hB1 hR1 ⊢
          have a0 := cell_of_row W g 0 _ 38 _ ha0
          have a1 := cell_of_row W g 1 _ 38 _ ha0
          have a2 := cell_of_row W g 2 _ 38 _ ha0
          have a3 := cell_of_row W g 3 _ 38 _ ha0
          have a4 := cell_of_row W g 4 _ 38 _ ha0
          have a5 := cell_of_row W g 5 _ 38 _ ha0
          have e8 := cell_of_row W b1 8 _ 35 _ hq1
          have HQ1 := Aside0.mk hq1
          have HP1 := Aside0.mk hp1
          have HB1 := Aside0.mk hB1
          have HR1 := Aside0.mk hR1
          clear ha0 hq1 hp1 hB1 hR1
          go_wp2_with (first | (at_builtin; go_must (refine Kd.R_append k38 w.heap.size rfl _ _ 33 38 (.agg #[(.int .i64 0), (.int .i64 0), (.int .i64 0), (.int .u32 0), (.string ⟨#[]⟩), (.bool false)]) 56 rfl Try.underlying33 info38 rfl (by decide) (by decide) (.slice A M.length c) M ⟨x1, x.f1, x.f2, x.f3, x.f4, x.f5⟩ _ (fun _ => True) (fun _ => False) rfl rfl (k38_mkM W w.heap.size (fun _ => False) ⟨x1, x.f1, x.f2, x.f3, x.f4, x.f5⟩) (fun _ h => h.elim) (fun _ _ => trivial) HR1.out HB1.out HB1.out.size (by omega) ?_; intro v1 w1 hr1 hb1 hgr _; obtain ⟨A1, c1', rfl, -, -⟩ := Kd.R_reads hr1; have hne : ∀ j, some j = (Value.slice A M.length c).ownBlock → j ≠ b0 ∧ j ≠ b1 := fun j hj => ⟨fun e => Kd.R_ne HR1.out HP1.out (by decide) (by rw [← e]; exact hj), fun e => Kd.R_ne HR1.out HQ1.out (by decide) (by rw [← e]; exact hj)⟩; have hp2 := (hgr.block b0 (blk_lt2 HP1.out) (fun e => (hne b0 e).1 rfl)).trans HP1.out; have hq2 := (hgr.block b1 (blk_lt2 HQ1.out) (fun e => (hne b1 e).2 rfl)).trans HQ1.out; have f8 : w1.frozen? ⟨b1, 8, none⟩ = false := (by simp [World.frozen?, hq2]); have e9 := cell_of_row w1 b1 8 _ 35 _ hq2; have HR2 := Aside0.mk hr1; have HB2 := Aside0.mk hb1; have HP2 := Aside0.mk hp2; have HQ2 := Aside0.mk hq2; clear hr1 hb1 hgr hp2 hq2 hne)))
          go_roundg k1
          case measure => omega
          case rel => exact ⟨M.length + 1, by simp; done, ⟨by have := HI.out; omega⟩, ⟨HB2.out.setCell HWB.out _⟩, ⟨by rw [Below.heap_setCell _ _ _ _ HD.out]; exact HP2.out⟩, ⟨_, _, by simp [World.setCell, Array.getElem?_modify, HQ2.out], Kd.R_set HR2.out HQ2.out (by decide) 8 _, by simp, fun y hy => by
            rcases List.mem_append.1 hy with h | h
            · exact HMZ.out y h
            · rw [List.mem_singleton.1 h]; exact HX.out⟩⟩
        · have ho1 : ((M.length : Int) % 2 == 1) = false := by simpa using hodd
          clear hodd
          go_upto_region 11 with (fail)
          obtain ⟨g, hg⟩ : ∃ g, g = wr.heap.size := ⟨_, rfl⟩
          have ha0 := hg ▸ heap_alloc_new wr (.cells #[.int .i64 0, .int .i64 x.f1, .int .i64 x.f2, .int .u32 x.f3, .string x.f4, .bool x.f5] 38)
          have hq1 := (heap_alloc_old wr (.cells #[.int .i64 0, .int .i64 x.f1, .int .i64 x.f2, .int .u32 x.f3, .string x.f4, .bool x.f5] 38) (blk_lt2 HQ.out)).trans HQ.out
          have hp1 := (heap_alloc_old wr (.cells #[.int .i64 0, .int .i64 x.f1, .int .i64 x.f2, .int .u32 x.f3, .string x.f4, .bool x.f5] 38) (blk_lt2 HP.out)).trans HP.out
          have hB1 := HB.out.alloc HB.out.size (.cells #[.int .i64 0, .int .i64 x.f1, .int .i64 x.f2, .int .u32 x.f3, .string x.f4, .bool x.f5] 38)
          have hR1 := Kd.R_below HRR.out ((Below.refl _ wr).alloc (Nat.le_refl _) (.cells #[.int .i64 0, .int .i64 x.f1, .int .i64 x.f2, .int .u32 x.f3, .string x.f4, .bool x.f5] 38))
          rw [← hg]
          clear hg
          generalize wr.alloc (.cells #[.int .i64 0, .int .i64 x.f1, .int .i64 x.f2, .int .u32 x.f3, .string x.f4, .bool x.f5] 38) = W at ha0 hq1 hp1 hB1 hR1 ⊢
          have a0 := cell_of_row W g 0 _ 38 _ ha0
          have a1 := cell_of_row W g 1 _ 38 _ ha0
          have a2 := cell_of_row W g 2 _ 38 _ ha0
          have a3 := cell_of_row W g 3 _ 38 _ ha0
          have a4 := cell_of_row W g 4 _ 38 _ ha0
          have a5 := cell_of_row W g 5 _ 38 _ ha0
          have e8 := cell_of_row W b1 8 _ 35 _ hq1
          have HQ1 := Aside0.mk hq1
          have HP1 := Aside0.mk hp1
          have HB1 := Aside0.mk hB1
          have HR1 := Aside0.mk hR1
          clear ha0 hq1 hp1 hB1 hR1
          go_wp2_with (first | (at_builtin; go_must (refine Kd.R_append k38 w.heap.size rfl _ _ 33 38 (.agg #[(.int .i64 0), (.int .i64 0), (.int .i64 0), (.int .u32 0), (.string ⟨#[]⟩), (.bool false)]) 56 rfl Try.underlying33 info38 rfl (by decide) (by decide) (.slice A M.length c) M ⟨0, x.f1, x.f2, x.f3, x.f4, x.f5⟩ _ (fun _ => True) (fun _ => False) rfl rfl (k38_mkM W w.heap.size (fun _ => False) ⟨0, x.f1, x.f2, x.f3, x.f4, x.f5⟩) (fun _ h => h.elim) (fun _ _ => trivial) HR1.out HB1.out HB1.out.size (by omega) ?_; intro v1 w1 hr1 hb1 hgr _; obtain ⟨A1, c1', rfl, -, -⟩ := Kd.R_reads hr1; have hne : ∀ j, some j = (Value.slice A M.length c).ownBlock → j ≠ b0 ∧ j ≠ b1 := fun j hj => ⟨fun e => Kd.R_ne HR1.out HP1.out (by decide) (by rw [← e]; exact hj), fun e => Kd.R_ne HR1.out HQ1.out (by decide) (by rw [← e]; exact hj)⟩; have hp2 := (hgr.block b0 (blk_lt2 HP1.out) (fun e => (hne b0 e).1 rfl)).trans HP1.out; have hq2 := (hgr.block b1 (blk_lt2 HQ1.out) (fun e => (hne b1 e).2 rfl)).trans HQ1.out; have f8 : w1.frozen? ⟨b1, 8, none⟩ = false := (by simp [World.frozen?, hq2]); have e9 := cell_of_row w1 b1 8 _ 35 _ hq2; have HR2 := Aside0.mk hr1; have HB2 := Aside0.mk hb1; have HP2 := Aside0.mk hp2; have HQ2 := Aside0.mk hq2; clear hr1 hb1 hgr hp2 hq2 hne)))
          go_roundg k1
          case measure => omega
          case rel => exact ⟨M.length + 1, by simp; done, ⟨by have := HI.out; omega⟩, ⟨HB2.out.setCell HWB.out _⟩, ⟨by rw [Below.heap_setCell _ _ _ _ HD.out]; exact HP2.out⟩, ⟨_, _, by simp [World.setCell, Array.getElem?_modify, HQ2.out], Kd.R_set HR2.out HQ2.out (by decide) 8 _, by simp, fun y hy => by
            rcases List.mem_append.1 hy with h | h
            · exact HMZ.out y h
            · rw [List.mem_singleton.1 h]; exact HX.out⟩⟩
      · have hib := decide_eq_false (show ¬ (M.length : Int) < (n : Int) by omega)
        have hib2 := decide_eq_false hi
        have e0 := cell_of_row wr b1 0 _ 35 _ HQ.out
        have e1 := cell_of_row wr b1 1 _ 35 _ HQ.out
        have e2 := cell_of_row wr b1 2 _ 35 _ HQ.out
        have e3 := cell_of_row wr b1 3 _ 35 _ HQ.out
        have e4 := cell_of_row wr b1 4 _ 35 _ HQ.out
        have e5 := cell_of_row wr b1 5 _ 35 _ HQ.out
        have e6 := cell_of_row wr b1 6 _ 35 _ HQ.out
        have e7 := cell_of_row wr b1 7 _ 35 _ HQ.out
        go_wp2_with (first | (go_at_call 5; refine (HE.out _ A c M HMC.out HAC.out (by have := HI.out; omega) HMZ.out).mono ?_; rintro e w2 ⟨rfl, hb⟩; have HB2 := Aside0.mk hb; clear hb))
        go_ret
        exact ⟨rfl, HB.out.trans (HB2.out.mono HB.out.size)⟩
end Go.Proofs.Ytbadcpaopdbgnaa.PStreamExact
