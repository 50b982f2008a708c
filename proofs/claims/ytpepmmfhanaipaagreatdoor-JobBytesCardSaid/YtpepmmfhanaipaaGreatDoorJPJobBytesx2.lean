-- Put together by mergex.py out of this workplace's texts.
import Derived.Test.YtpepmmfhanaipaaGreatDoorJPJobBytesx0
import Derived.Test.YtpepmmfhanaipaaGreatDoorJPJobBytesx1
namespace Go.Proofs.YtpepmmfhanaipaaGreatDoor.PJobBytes
open Go.RowKit Go.Proofs.YtpepmmfhanaipaaGreatDoorW.PrintWords Go.Proofs.YtpepmmfhanaipaaGreatDoorW.PrintLast Go.Proofs.YtpepmmfhanaipaaGreatDoorW.PrintMore
attribute [local go_sem] max2_int min2_int max_two min_two max_three min_three max_four min_four   -- for this text's walks alone
set_option linter.unusedVariables false
set_option linter.unusedSimpArgs false
def job_Bytes.f (k : Nat) (a0_0 : Int) (a0_1 : ByteArray) (a0_2 : Int) (a0_3 : Int) (a0_4 : Int) (l0_5 : List Int) (a0_6 : Int) : Option (ByteArray × Int) := (job_Check.f k a0_0 a0_1 a0_2 a0_3 a0_4 l0_5 a0_6).bind fun t129 => (if t129 = 0 then ((num_Row_int.f k (([a0_0, (a0_1.size : Int)] : List Int))).bind fun t133 => (if t133.size + a0_1.size ≤ 9223372036854775807 then ((num_Row_int.f k (([a0_2, a0_3, a0_4, (l0_5.length : Int)] : List Int))).bind fun t137 => (if (t133 ++ a0_1).size + t137.size ≤ 9223372036854775807 then ((num_Row_int.f k l0_5).bind fun t138 => (if ((t133 ++ a0_1) ++ t137).size + t138.size ≤ 9223372036854775807 then ((num_Row_int.f k (([a0_6] : List Int))).bind fun t142 => (if (((t133 ++ a0_1) ++ t137) ++ t138).size + t142.size ≤ 9223372036854775807 then (some ((((t133 ++ a0_1) ++ t137) ++ t138) ++ t142, 0)) else (none))) else (none))) else (none))) else (none))) else (some ((⟨#[]⟩ : ByteArray), 1)))
def job_Bytes.T3 : Bool × List (List Nat × List Nat) := (true, [([], []), ([0], [0]), ([], []), ([2], [2]), ([3], [3]), ([1, 4], [1, 4]), ([5], [5]), ([], []), ([7], [7]), ([6, 8], [6, 8]), ([9, 6, 0, 1, 2, 3, 4, 5, 6, 7, 8, 9], [9])])
def job_Bytes.B3 : List Nat := [0, 1, 0, 4, 12, 31, 63, 0, 128, 511, 1023]
theorem job_Bytes.tab3 : rtab .any (opsOf Tryz.f24 3) = job_Bytes.T3 := by kernel_rfl
theorem job_Bytes.bits3 : waitsOk job_Bytes.T3.2 job_Bytes.B3 = true := by kernel_rfl
def job_Bytes.T5 : Bool × List (List Nat × List Nat) := (true, [([], []), ([], []), ([1], [1]), ([2], [2]), ([0, 3], [0, 3]), ([], []), ([5], [5]), ([6], [6]), ([7, 3], [7]), ([4, 8], [4, 8]), ([9, 8, 0, 1, 2, 3, 4, 5, 6, 7, 8, 9], [9]), ([10, 0, 1, 2, 3, 4, 5, 6, 7, 8, 9, 10], [])])
def job_Bytes.B5 : List Nat := [0, 0, 2, 6, 15, 0, 32, 96, 238, 511, 1023, 2047]
theorem job_Bytes.tab5 : rtab .any (opsOf Tryz.f24 5) = job_Bytes.T5 := by kernel_rfl
theorem job_Bytes.bits5 : waitsOk job_Bytes.T5.2 job_Bytes.B5 = true := by kernel_rfl
set_option maxHeartbeats 8000000 in
set_option maxRecDepth 100000 in
theorem job_Bytes.calls (k : Nat) (a0_0 : Int) (a0_1 : ByteArray) (a0_2 : Int) (a0_3 : Int) (a0_4 : Int) (A0_5 : Option Addr) (c0_5 : Nat) (l0_5 : List Int) (a0_6 : Int) (r1 : ByteArray) (r2 : Int) (w : World) (hr0_5 : Kd.C (Kd.int .i64) w A0_5 l0_5.length l0_5) (hc0_5 : l0_5.length ≤ c0_5) (h : job_Bytes.f k a0_0 a0_1 a0_2 a0_3 a0_4 l0_5 a0_6 = some (r1, r2)) :
  Calls Tryz.prog 24 #[.agg #[.int .i64 a0_0, .string a0_1, .int .i64 a0_2, .int .i64 a0_3, .int .i64 a0_4, .slice A0_5 l0_5.length c0_5, .int .i64 a0_6]] w fun e w' => e = .returned (.tuple #[.string r1, .int .i64 r2]) ∧ Below w.heap.size w w' := by
 have hu63 := Tryz.underlying63; have HR0_5 := Aside0.mk hr0_5; have HC0_5 := Aside0.mk hc0_5; clear hr0_5 hc0_5
 have HB := Aside0.mk (Below.refl w.heap.size w)
 have H : ((job_Check.f k a0_0 a0_1 a0_2 a0_3 a0_4 l0_5 a0_6).bind fun t129 => (if t129 = 0 then ((num_Row_int.f k (([a0_0, (a0_1.size : Int)] : List Int))).bind fun t133 => (if t133.size + a0_1.size ≤ 9223372036854775807 then ((num_Row_int.f k (([a0_2, a0_3, a0_4, (l0_5.length : Int)] : List Int))).bind fun t137 => (if (t133 ++ a0_1).size + t137.size ≤ 9223372036854775807 then ((num_Row_int.f k l0_5).bind fun t138 => (if ((t133 ++ a0_1) ++ t137).size + t138.size ≤ 9223372036854775807 then ((num_Row_int.f k (([a0_6] : List Int))).bind fun t142 => (if (((t133 ++ a0_1) ++ t137) ++ t138).size + t142.size ≤ 9223372036854775807 then (some ((((t133 ++ a0_1) ++ t137) ++ t138) ++ t142, 0)) else (none))) else (none))) else (none))) else (none))) else (some ((⟨#[]⟩ : ByteArray), 1)))) = some (r1, r2) := h
 clear h
 replace H := Option.bind_eq_some_iff.mp H
 obtain ⟨t129, A20, H⟩ := H
 replace H : (if t129 = 0 then ((num_Row_int.f k (([a0_0, (a0_1.size : Int)] : List Int))).bind fun t133 => (if t133.size + a0_1.size ≤ 9223372036854775807 then ((num_Row_int.f k (([a0_2, a0_3, a0_4, (l0_5.length : Int)] : List Int))).bind fun t137 => (if (t133 ++ a0_1).size + t137.size ≤ 9223372036854775807 then ((num_Row_int.f k l0_5).bind fun t138 => (if ((t133 ++ a0_1) ++ t137).size + t138.size ≤ 9223372036854775807 then ((num_Row_int.f k (([a0_6] : List Int))).bind fun t142 => (if (((t133 ++ a0_1) ++ t137) ++ t138).size + t142.size ≤ 9223372036854775807 then (some ((((t133 ++ a0_1) ++ t137) ++ t138) ++ t142, 0)) else (none))) else (none))) else (none))) else (none))) else (some ((⟨#[]⟩ : ByteArray), 1))) = some (r1, r2) := H
 have A2 := Aside0.mk A20; clear A20
 by_cases c3 : t129 = 0
 rotate_left
 ·
  rw [if_neg c3] at H
  have c3b0 : (t129 == 0) = false := beq_eq_false_iff_ne.mpr c3
  have c3b1 : (t129 != 0) = true := bne_iff_ne.mpr c3
  simp only [Option.some.injEq, Prod.mk.injEq] at H
  obtain ⟨rfl, rfl⟩ := H
  go_enter Tryz.func24, Tryz.ntmps24
  go_wp2_with (first | ((with_reducible refine gate_dst (N := 1) rfl ?_); refine box_event ?hg (N := 1) ?hd (cs := #[.int .i64 a0_0, .string a0_1, .int .i64 a0_2, .int .i64 a0_3, .int .i64 a0_4, .slice A0_5 l0_5.length c0_5, .int .i64 a0_6]) (t := 63) ?hr ?_; (case hd => rfl); (case hg => rfl); (case hr => first | (go_simp; done) | (go_simp; rfl)); intro gb128 hg w32 hbox hb; have n0_ := Aside0.mk (below_step (by repeat (first | (with_reducible first | exact HB.out | apply below_alloc | apply pw_below_drewN | apply below_drew1) | exact HB.out)) hb); have n1_ := Aside0.mk (hbox); have n2_ := Aside0.mk ((by rw [hg]; exact (below_size (by repeat (first | (with_reducible first | exact HB.out | apply below_alloc | apply pw_below_drewN | apply below_drew1) | exact HB.out))) : w.heap.size ≤ gb128)); have n3_ := n2_; clear HB; have HB := n0_; have BK128 := n1_; have GW128 := n2_; have GE128 := n3_; clear n0_ n1_ n2_ n3_; clear hb hbox hg; obtain ⟨hcz33_0, hcz33_1, hcz33_2, hcz33_3, hcz33_4, hcz33_5, hcz33_6, hfz33_0, hfz33_1, hfz33_2, hfz33_3, hfz33_4, hfz33_5, hfz33_6⟩ := blkall_7 BK128.out) | ((with_reducible refine gate_callee (f := 28) rfl ?_); refine goesL_ (some 6) rfl rfl Tryz.func28 (by kernel_rfl) rfl #[.agg #[.int .i64 a0_0, .string a0_1, .int .i64 a0_2, .int .i64 a0_3, .int .i64 a0_4, .slice A0_5 l0_5.length c0_5, .int .i64 a0_6]] rfl (by (try simp only [List.map_toArray, List.map_cons, List.map_nil]); first | done | rfl | (simp only [List.length_drop, List.length_take]; rfl)) ?_; (with_reducible refine (job_Check.calls k a0_0 a0_1 a0_2 a0_3 a0_4 _ _ l0_5 a0_6 t129 _ ?side1 ?side2 A2.out).mono ?_); (case side1 => repeat (first | exact (Kd.C_below HR0_5.out HB.out) | (with_reducible refine Kd.C_alloc ?_ _) | (with_reducible refine Kd.C_drewN ?_ _) | (with_reducible refine Kd.C_drew ?_))); (case side2 => exact HC0_5.out); rintro e w34 ⟨rfl, hb⟩; refine ⟨_, rfl, ?_⟩; have n0_ := Aside0.mk (blk_below (blk_up BK128.out) hb); have n1_ := Aside0.mk (below_step (by repeat (first | (with_reducible first | exact HB.out | apply below_alloc | apply pw_below_drewN | apply below_drew1 | refine below_setA ?_ ‹_›) | exact HB.out)) hb); clear BK128; clear HB; have BK128 := n0_; have HB := n1_; clear n0_ n1_; (try clear hb); (try clear hb2); (try clear hk); (try clear hi)))
  go_ret2
  exact ⟨by first | rfl | (simp [errW_none, errW_some] <;> rfl) | (simp [*, errW_none, errW_some] <;> rfl), by repeat (first | (with_reducible first | exact HB.out | apply below_alloc | apply pw_below_drewN | apply below_drew1 | refine below_setA ?_ ‹_›) | exact HB.out)⟩
 rw [if_pos c3] at H
 have c3b0 : (t129 == 0) = true := beq_iff_eq.mpr c3
 have c3b1 : (t129 != 0) = false := bne_eq_false_iff_eq.mpr c3
 clear c3
 obtain ⟨y130, hy130⟩ : ∃ y_ : List Int, y_ = (([a0_0, (a0_1.size : Int)] : List Int)) := ⟨_, rfl⟩
 replace H : ((num_Row_int.f k y130).bind fun t133 => (if t133.size + a0_1.size ≤ 9223372036854775807 then ((num_Row_int.f k (([a0_2, a0_3, a0_4, (l0_5.length : Int)] : List Int))).bind fun t137 => (if (t133 ++ a0_1).size + t137.size ≤ 9223372036854775807 then ((num_Row_int.f k l0_5).bind fun t138 => (if ((t133 ++ a0_1) ++ t137).size + t138.size ≤ 9223372036854775807 then ((num_Row_int.f k (([a0_6] : List Int))).bind fun t142 => (if (((t133 ++ a0_1) ++ t137) ++ t138).size + t142.size ≤ 9223372036854775807 then (some ((((t133 ++ a0_1) ++ t137) ++ t138) ++ t142, 0)) else (none))) else (none))) else (none))) else (none))) = some (r1, r2) := by first | (rw [hy130]; with_reducible exact H) | (have H2_ := (Option.bind_some _ _).symm.trans H; rw [hy130]; with_reducible exact H2_) | (have H2_ := (Option.bind_some _ _).symm.trans H; with_reducible exact H2_) | with_reducible exact H | (rw [hy130]; exact H) | exact H
 have Ny130 := Aside0.mk hy130; clear hy130
 replace H := Option.bind_eq_some_iff.mp H
 obtain ⟨t133, A40, H⟩ := H
 replace H : (if t133.size + a0_1.size ≤ 9223372036854775807 then ((num_Row_int.f k (([a0_2, a0_3, a0_4, (l0_5.length : Int)] : List Int))).bind fun t137 => (if (t133 ++ a0_1).size + t137.size ≤ 9223372036854775807 then ((num_Row_int.f k l0_5).bind fun t138 => (if ((t133 ++ a0_1) ++ t137).size + t138.size ≤ 9223372036854775807 then ((num_Row_int.f k (([a0_6] : List Int))).bind fun t142 => (if (((t133 ++ a0_1) ++ t137) ++ t138).size + t142.size ≤ 9223372036854775807 then (some ((((t133 ++ a0_1) ++ t137) ++ t138) ++ t142, 0)) else (none))) else (none))) else (none))) else (none)) = some (r1, r2) := H
 have A4 := Aside0.mk A40; clear A40
 by_cases c5 : t133.size + a0_1.size ≤ 9223372036854775807
 rotate_left
 ·
  rw [if_neg c5] at H
  exact absurd H (by simp)
 rw [if_pos c5] at H
 have c5b0 := eq_true c5
 have c5b1 : decide (t133.size + a0_1.size ≤ 9223372036854775807) = true := decide_eq_true c5
 try have c5b2 : (9223372036854775807 < t133.size + a0_1.size) = False := eq_false (Nat.not_lt.2 c5)
 try (have c5b3 := c5b2; simp only [ByteArray.size_append, ByteArray.size_extract, Nat.min_self] at c5b3)
 obtain ⟨y134, hy134⟩ : ∃ y_ : List Int, y_ = (([a0_2, a0_3, a0_4, (l0_5.length : Int)] : List Int)) := ⟨_, rfl⟩
 replace H : ((num_Row_int.f k y134).bind fun t137 => (if (t133 ++ a0_1).size + t137.size ≤ 9223372036854775807 then ((num_Row_int.f k l0_5).bind fun t138 => (if ((t133 ++ a0_1) ++ t137).size + t138.size ≤ 9223372036854775807 then ((num_Row_int.f k (([a0_6] : List Int))).bind fun t142 => (if (((t133 ++ a0_1) ++ t137) ++ t138).size + t142.size ≤ 9223372036854775807 then (some ((((t133 ++ a0_1) ++ t137) ++ t138) ++ t142, 0)) else (none))) else (none))) else (none))) = some (r1, r2) := by first | (rw [hy134]; with_reducible exact H) | (have H2_ := (Option.bind_some _ _).symm.trans H; rw [hy134]; with_reducible exact H2_) | (have H2_ := (Option.bind_some _ _).symm.trans H; with_reducible exact H2_) | with_reducible exact H | (rw [hy134]; exact H) | exact H
 have Ny134 := Aside0.mk hy134; clear hy134
 replace H := Option.bind_eq_some_iff.mp H
 obtain ⟨t137, A60, H⟩ := H
 replace H : (if (t133 ++ a0_1).size + t137.size ≤ 9223372036854775807 then ((num_Row_int.f k l0_5).bind fun t138 => (if ((t133 ++ a0_1) ++ t137).size + t138.size ≤ 9223372036854775807 then ((num_Row_int.f k (([a0_6] : List Int))).bind fun t142 => (if (((t133 ++ a0_1) ++ t137) ++ t138).size + t142.size ≤ 9223372036854775807 then (some ((((t133 ++ a0_1) ++ t137) ++ t138) ++ t142, 0)) else (none))) else (none))) else (none)) = some (r1, r2) := H
 have A6 := Aside0.mk A60; clear A60
 by_cases c7 : (t133 ++ a0_1).size + t137.size ≤ 9223372036854775807
 rotate_left
 ·
  rw [if_neg c7] at H
  exact absurd H (by simp)
 rw [if_pos c7] at H
 have c7b0 := eq_true c7
 have c7b1 : decide ((t133 ++ a0_1).size + t137.size ≤ 9223372036854775807) = true := decide_eq_true c7
 try have c7b2 : (9223372036854775807 < (t133 ++ a0_1).size + t137.size) = False := eq_false (Nat.not_lt.2 c7)
 try (have c7b3 := c7b2; simp only [ByteArray.size_append, ByteArray.size_extract, Nat.min_self] at c7b3)
 replace H := Option.bind_eq_some_iff.mp H
 obtain ⟨t138, A80, H⟩ := H
 replace H : (if ((t133 ++ a0_1) ++ t137).size + t138.size ≤ 9223372036854775807 then ((num_Row_int.f k (([a0_6] : List Int))).bind fun t142 => (if (((t133 ++ a0_1) ++ t137) ++ t138).size + t142.size ≤ 9223372036854775807 then (some ((((t133 ++ a0_1) ++ t137) ++ t138) ++ t142, 0)) else (none))) else (none)) = some (r1, r2) := H
 have A8 := Aside0.mk A80; clear A80
 by_cases c9 : ((t133 ++ a0_1) ++ t137).size + t138.size ≤ 9223372036854775807
 rotate_left
 ·
  rw [if_neg c9] at H
  exact absurd H (by simp)
 rw [if_pos c9] at H
 have c9b0 := eq_true c9
 have c9b1 : decide (((t133 ++ a0_1) ++ t137).size + t138.size ≤ 9223372036854775807) = true := decide_eq_true c9
 try have c9b2 : (9223372036854775807 < ((t133 ++ a0_1) ++ t137).size + t138.size) = False := eq_false (Nat.not_lt.2 c9)
 try (have c9b3 := c9b2; simp only [ByteArray.size_append, ByteArray.size_extract, Nat.min_self] at c9b3)
 obtain ⟨y139, hy139⟩ : ∃ y_ : List Int, y_ = (([a0_6] : List Int)) := ⟨_, rfl⟩
 replace H : ((num_Row_int.f k y139).bind fun t142 => (if (((t133 ++ a0_1) ++ t137) ++ t138).size + t142.size ≤ 9223372036854775807 then (some ((((t133 ++ a0_1) ++ t137) ++ t138) ++ t142, 0)) else (none))) = some (r1, r2) := by first | (rw [hy139]; with_reducible exact H) | (have H2_ := (Option.bind_some _ _).symm.trans H; rw [hy139]; with_reducible exact H2_) | (have H2_ := (Option.bind_some _ _).symm.trans H; with_reducible exact H2_) | with_reducible exact H | (rw [hy139]; exact H) | exact H
 have Ny139 := Aside0.mk hy139; clear hy139
 replace H := Option.bind_eq_some_iff.mp H
 obtain ⟨t142, A100, H⟩ := H
 replace H : (if (((t133 ++ a0_1) ++ t137) ++ t138).size + t142.size ≤ 9223372036854775807 then (some ((((t133 ++ a0_1) ++ t137) ++ t138) ++ t142, 0)) else (none)) = some (r1, r2) := H
 have A10 := Aside0.mk A100; clear A100
 by_cases c11 : (((t133 ++ a0_1) ++ t137) ++ t138).size + t142.size ≤ 9223372036854775807
 rotate_left
 ·
  rw [if_neg c11] at H
  exact absurd H (by simp)
 rw [if_pos c11] at H
 have c11b0 := eq_true c11
 have c11b1 : decide ((((t133 ++ a0_1) ++ t137) ++ t138).size + t142.size ≤ 9223372036854775807) = true := decide_eq_true c11
 try have c11b2 : (9223372036854775807 < (((t133 ++ a0_1) ++ t137) ++ t138).size + t142.size) = False := eq_false (Nat.not_lt.2 c11)
 try (have c11b3 := c11b2; simp only [ByteArray.size_append, ByteArray.size_extract, Nat.min_self] at c11b3)
 simp only [Option.some.injEq, Prod.mk.injEq] at H
 obtain ⟨rfl, rfl⟩ := H
 go_enter Tryz.func24, Tryz.ntmps24
 try go_wp2_with (first | ((with_reducible refine gate_dst (N := 1) rfl ?_); refine box_event ?hg (N := 1) ?hd (cs := #[.int .i64 a0_0, .string a0_1, .int .i64 a0_2, .int .i64 a0_3, .int .i64 a0_4, .slice A0_5 l0_5.length c0_5, .int .i64 a0_6]) (t := 63) ?hr ?_; (case hd => rfl); (case hg => rfl); (case hr => first | (go_simp; done) | (go_simp; rfl)); intro gb128 hg w12 hbox hb; have n0_ := Aside0.mk (below_step (by repeat (first | (with_reducible first | exact HB.out | apply below_alloc | apply pw_below_drewN | apply below_drew1) | exact HB.out)) hb); have n1_ := Aside0.mk (hbox); have n2_ := Aside0.mk ((by rw [hg]; exact (below_size (by repeat (first | (with_reducible first | exact HB.out | apply below_alloc | apply pw_below_drewN | apply below_drew1) | exact HB.out))) : w.heap.size ≤ gb128)); have n3_ := n2_; clear HB; have HB := n0_; have BK128 := n1_; have GW128 := n2_; have GE128 := n3_; clear n0_ n1_ n2_ n3_; clear hb hbox hg; obtain ⟨hcz13_0, hcz13_1, hcz13_2, hcz13_3, hcz13_4, hcz13_5, hcz13_6, hfz13_0, hfz13_1, hfz13_2, hfz13_3, hfz13_4, hfz13_5, hfz13_6⟩ := blkall_7 BK128.out) | ((with_reducible refine gate_callee (f := 28) rfl ?_); refine goesL_ (some 6) rfl rfl Tryz.func28 (by kernel_rfl) rfl #[.agg #[.int .i64 a0_0, .string a0_1, .int .i64 a0_2, .int .i64 a0_3, .int .i64 a0_4, .slice A0_5 l0_5.length c0_5, .int .i64 a0_6]] rfl (by (try simp only [List.map_toArray, List.map_cons, List.map_nil]); first | done | rfl | (simp only [List.length_drop, List.length_take]; rfl)) ?_; (with_reducible refine (job_Check.calls k a0_0 a0_1 a0_2 a0_3 a0_4 _ _ l0_5 a0_6 t129 _ ?side1 ?side2 A2.out).mono ?_); (case side1 => repeat (first | exact (Kd.C_below HR0_5.out HB.out) | (with_reducible refine Kd.C_alloc ?_ _) | (with_reducible refine Kd.C_drewN ?_ _) | (with_reducible refine Kd.C_drew ?_))); (case side2 => exact HC0_5.out); rintro e w14 ⟨rfl, hb⟩; refine ⟨_, rfl, ?_⟩; have n0_ := Aside0.mk (blk_below (blk_up BK128.out) hb); have n1_ := Aside0.mk (below_step (by repeat (first | (with_reducible first | exact HB.out | apply below_alloc | apply pw_below_drewN | apply below_drew1 | refine below_setA ?_ ‹_›) | exact HB.out)) hb); clear BK128; clear HB; have BK128 := n0_; have HB := n1_; clear n0_ n1_; (try clear hb); (try clear hb2); (try clear hk); (try clear hi)))
 have n0_ := Aside0.mk (blk_drew BK128.out)
 have n1_ := Aside0.mk (below_drew1 HB.out)
 clear BK128; clear HB; have BK128 := n0_; have HB := n1_; clear n0_ n1_
 refine start_ (n := 11) (S := fun w' => w'.cell? ⟨gb128, 0, none⟩ = some (.int .i64 a0_0) ∧ w'.cell? ⟨gb128, 1, none⟩ = some (.string a0_1) ∧ w'.cell? ⟨gb128, 2, none⟩ = some (.int .i64 a0_2) ∧ w'.cell? ⟨gb128, 3, none⟩ = some (.int .i64 a0_3) ∧ w'.cell? ⟨gb128, 4, none⟩ = some (.int .i64 a0_4) ∧ w'.cell? ⟨gb128, 5, none⟩ = some (.slice A0_5 l0_5.length c0_5) ∧ w'.cell? ⟨gb128, 6, none⟩ = some (.int .i64 a0_6)) (ds := []) #[false, false, false, false, false, false, false, false, false, false, false] (by kernel_rfl) rfl rfl ⟨(blk_cell BK128.out 0).trans rfl, (blk_cell BK128.out 1).trans rfl, (blk_cell BK128.out 2).trans rfl, (blk_cell BK128.out 3).trans rfl, (blk_cell BK128.out 4).trans rfl, (blk_cell BK128.out 5).trans rfl, (blk_cell BK128.out 6).trans rfl⟩ (fun hHeld => ?_); refine with_tabW job_Bytes.tab3 job_Bytes.bits3 (fun HT_ HW_ => ?_)
 generalize w14.drew = w15 at BK128 HB hHeld ⊢
 refine pure_ (i := 0) (N := some 8) (v := ?_) (a' := ?_) #[true, false, false, false, false, false, false, false, false, false, false] rfl rfl (any_of HT_.out (by kernel_rfl)) (fun _ _ _ h => h) (Or.inl ⟨by rfl, ?_⟩) ?_ ?_
 rotate_left
 ·
  intro w'
  go_simp
  with_reducible rfl
 rotate_left
 ·
  simp only [Act.put, List.setIfInBounds_toArray, List.set_cons_zero, List.set_cons_succ, i64_w, i32_w]
  rfl
 refine pure_ (i := 2) (N := some 10) (v := ?_) (a' := ?_) #[true, false, true, false, false, false, false, false, false, false, false] rfl rfl (any_of HT_.out (by kernel_rfl)) (fun _ _ _ h => h) (Or.inl ⟨by rfl, ?_⟩) ?_ ?_
 rotate_left
 ·
  intro w'
  go_simp
  with_reducible rfl
 rotate_left
 ·
  simp only [Act.put, List.setIfInBounds_toArray, List.set_cons_zero, List.set_cons_succ, i64_w, i32_w]
  rfl
 refine pure_ (i := 7) (N := some 15) (v := ?_) (a' := ?_) #[true, false, true, false, false, false, false, true, false, false, false] rfl rfl (any_of HT_.out (by kernel_rfl)) (fun _ _ _ h => h) (Or.inl ⟨by rfl, ?_⟩) ?_ ?_
 rotate_left
 ·
  intro w'
  go_simp
  with_reducible rfl
 rotate_left
 ·
  simp only [Act.put, List.setIfInBounds_toArray, List.set_cons_zero, List.set_cons_succ, i64_w, i32_w]
  rfl
 refine take_ (i := 1) (N := some 9) (v := ?_) (a' := ?_) #[true, true, true, false, false, false, false, true, false, false, false] rfl rfl (take_ofW HT_.out HW_.out (by kernel_rfl)) (fun _ _ _ h => h) (Or.inl ⟨by rfl, ?_⟩) hHeld ?_ ?_
 rotate_left
 ·
  rintro w' ⟨s0, s1, s2, s3, s4, s5, s6⟩
  go_simp
  with_reducible rfl
 rotate_left
 ·
  simp only [Act.put, List.setIfInBounds_toArray, List.set_cons_zero, List.set_cons_succ, i64_w, i32_w]
  rfl
 refine take_ (i := 3) (N := some 11) (v := ?_) (a' := ?_) #[true, true, true, true, false, false, false, true, false, false, false] rfl rfl (take_ofW HT_.out HW_.out (by kernel_rfl)) (fun _ _ _ h => h) (Or.inl ⟨by rfl, ?_⟩) hHeld ?_ ?_
 rotate_left
 ·
  rintro w' ⟨s0, s1, s2, s3, s4, s5, s6⟩
  go_simp
  with_reducible rfl
 rotate_left
 ·
  simp only [Act.put, List.setIfInBounds_toArray, List.set_cons_zero, List.set_cons_succ, i64_w, i32_w]
  rfl
 refine pure_ (i := 4) (N := some 12) (v := ?_) (a' := ?_) #[true, true, true, true, true, false, false, true, false, false, false] rfl rfl (any_of HT_.out (by kernel_rfl)) (fun _ _ _ h => h) (Or.inl ⟨by rfl, ?_⟩) ?_ ?_
 rotate_left
 ·
  intro w'
  go_simp
  with_reducible rfl
 rotate_left
 ·
  simp only [Act.put, List.setIfInBounds_toArray, List.set_cons_zero, List.set_cons_succ, i64_w, i32_w]
  rfl
 refine take_ (i := 8) (N := some 16) (v := ?_) (a' := ?_) #[true, true, true, true, true, false, false, true, true, false, false] rfl rfl (take_ofW HT_.out HW_.out (by kernel_rfl)) (fun _ _ _ h => h) (Or.inl ⟨by rfl, ?_⟩) hHeld ?_ ?_
 rotate_left
 ·
  rintro w' ⟨s0, s1, s2, s3, s4, s5, s6⟩
  go_simp
  with_reducible rfl
 rotate_left
 ·
  simp only [Act.put, List.setIfInBounds_toArray, List.set_cons_zero, List.set_cons_succ, i64_w, i32_w]
  rfl
 refine one_ (i := 5) (N := some 13) #[true, true, true, true, true, true, false, true, true, false, false] rfl rfl (one_of HT_.out (by kernel_rfl)) (by decide) (fun K hK => ?_)
 refine Kd.R_lit_step (Kd.int .i64) _ 3 ?hg (N := 13) ?hd (xs := ([a0_0, (a0_1.size : Int)] : List Int)) (inner := [.int .i64 a0_0, .int .i64 (a0_1.size : Int)]) (ok := fun _ => True) (okp := fun _ => True) ?hr ?hp (fun _ hk => hk) trivial (Below.refl _ _) (Nat.le_refl _) (by simp) ?_; (case hd => rfl); (case hg => rfl); (case hr => first | (go_simp; done) | (go_simp; rfl)); (case hp => exact (Reps.one (show Kd.M (Kd.int .i64) _ _ _ a0_0 [.int .i64 a0_0] from rfl) (Reps.one (show Kd.M (Kd.int .i64) _ _ _ (a0_1.size : Int) [.int .i64 (a0_1.size : Int)] from rfl) (Reps.none _ _))))
 intro v131 w16 ho17 hb hg_ hnew_
 clear hg_ hnew_
 (first | rw [← Ny130.out] at ho17 | (simp only [Int.reduceToNat] at ho17; rw [← Ny130.out] at ho17))
 have n0_ := Aside0.mk (Kd.R_lower ho17 (below_size (by repeat (first | (with_reducible first | exact HB.out | apply below_alloc | apply pw_below_drewN | apply below_drew1 | refine below_setA ?_ ‹_›) | exact HB.out))))
 have n1_ := Aside0.mk (blk_below (blk_up BK128.out) hb)
 have n2_ := Aside0.mk (below_step (by repeat (first | (with_reducible first | exact HB.out | apply below_alloc | apply pw_below_drewN | apply below_drew1 | refine below_setA ?_ ‹_›) | exact HB.out)) hb)
 clear BK128; clear HB; have HO132 := n0_; have BK128 := n1_; have HB := n2_; clear n0_ n1_ n2_; clear hb ho17
 obtain ⟨Ao18, co18, eo18⟩ := Kd.R_slice HO132.out
 (first | subst eo18 | (injection eo18 with f1_ f2_ f3_; have f4_ := f1_.symm; have f5_ := f3_.symm; clear f1_ f2_ f3_; subst f4_; subst f5_))
 refine hK.out _ _ ⟨(blk_cell BK128.out 0).trans rfl, (blk_cell BK128.out 1).trans rfl, (blk_cell BK128.out 2).trans rfl, (blk_cell BK128.out 3).trans rfl, (blk_cell BK128.out 4).trans rfl, (blk_cell BK128.out 5).trans rfl, (blk_cell BK128.out 6).trans rfl⟩ (fun hHeld => ?_)
 clear hK K
 refine norm_ (a' := ?_) ?_ ?_
 rotate_left
 ·
  show Act.put _ (some 13) _ = _
  simp only [Act.put, List.setIfInBounds_toArray, List.set_cons_zero, List.set_cons_succ, i64_w, i32_w]
  rfl
 refine one_ (i := 6) (N := some 14) #[true, true, true, true, true, true, true, true, true, false, false] rfl rfl (one_of HT_.out (by kernel_rfl)) (by decide) (fun K hK => ?_)
 refine goes_ Tryz.func54 (by kernel_rfl) rfl #[.slice Ao18 y130.length co18] (by rfl) rfl rfl (by (try simp only [List.map_toArray, List.map_cons, List.map_nil]); first | done | rfl | (simp only [List.length_drop, List.length_take]; rfl)) ?_
 with_reducible refine (num_Row_int.calls k _ _ y130 t133 _ ?side1 ?side2 A4.out).mono ?_
 (case side1 => repeat (first | exact (Kd.R_reads' HO132.out).2.2 | (with_reducible refine Kd.C_alloc ?_ _) | (with_reducible refine Kd.C_drewN ?_ _) | (with_reducible refine Kd.C_drew ?_)))
 (case side2 => exact (Kd.R_reads' HO132.out).2.1)
 rintro e w19 ⟨rfl, hb⟩
 refine ⟨_, rfl, ?_⟩
 have n0_ := Aside0.mk (Kd.R_below (by (with_reducible repeat (first | apply Kd.R_alloc | apply Kd.R_drewN | apply Kd.R_drew)); exact HO132.out) hb)
 have n1_ := Aside0.mk (blk_below (blk_up BK128.out) hb)
 have n2_ := Aside0.mk (below_step (by repeat (first | (with_reducible first | exact HB.out | apply below_alloc | apply pw_below_drewN | apply below_drew1 | refine below_setA ?_ ‹_›) | exact HB.out)) hb)
 clear HO132; clear BK128; clear HB; have HO132 := n0_; have BK128 := n1_; have HB := n2_; clear n0_ n1_ n2_
 (try clear hb)
 (try clear hb2)
 (try clear hk)
 (try clear hi)
 refine hK.out _ _ ⟨(blk_cell BK128.out 0).trans rfl, (blk_cell BK128.out 1).trans rfl, (blk_cell BK128.out 2).trans rfl, (blk_cell BK128.out 3).trans rfl, (blk_cell BK128.out 4).trans rfl, (blk_cell BK128.out 5).trans rfl, (blk_cell BK128.out 6).trans rfl⟩ (fun hHeld => ?_)
 clear hK K
 refine norm_ (a' := ?_) ?_ ?_
 rotate_left
 ·
  show Act.put _ (some 14) _ = _
  simp only [Act.put, List.setIfInBounds_toArray, List.set_cons_zero, List.set_cons_succ, i64_w, i32_w]
  rfl
 refine pure_ (i := 9) (N := some 17) (v := ?_) (a' := ?_) #[true, true, true, true, true, true, true, true, true, true, false] rfl rfl (any_of HT_.out (by kernel_rfl)) (fun _ _ _ h => h) (Or.inl ⟨by rfl, ?_⟩) ?_ ?_
 rotate_left
 ·
  intro w'
  go_simp
  with_reducible rfl
 rotate_left
 ·
  simp only [Act.put, List.setIfInBounds_toArray, List.set_cons_zero, List.set_cons_succ, i64_w, i32_w]
  rfl
 refine pure_ (i := 10) (N := some 4) (v := ?_) (a' := ?_) #[true, true, true, true, true, true, true, true, true, true, true] rfl rfl (any_of HT_.out (by kernel_rfl)) (fun _ _ _ h => h) (Or.inl ⟨by rfl, ?_⟩) ?_ ?_
 rotate_left
 ·
  intro w'
  go_simp
  with_reducible rfl
 rotate_left
 ·
  simp only [Act.put, List.setIfInBounds_toArray, List.set_cons_zero, List.set_cons_succ, i64_w, i32_w]
  rfl
 refine done_ (done_of HT_.out (by kernel_rfl)) ?_
 obtain ⟨hcz20_0, hcz20_1, hcz20_2, hcz20_3, hcz20_4, hcz20_5, hcz20_6, hfz20_0, hfz20_1, hfz20_2, hfz20_3, hfz20_4, hfz20_5, hfz20_6⟩ := blkall_7 BK128.out
 try go_wp2_with (first | ((with_reducible refine gate_dst (N := 28) rfl ?_); refine Kd.R_lit (Kd.int .i64) _ 3 ?hg (N := 28) ?hd (xs := ([a0_2, a0_3, a0_4, (l0_5.length : Int)] : List Int)) (inner := [.int .i64 a0_2, .int .i64 a0_3, .int .i64 a0_4, .int .i64 (l0_5.length : Int)]) (ok := fun _ => True) (okp := fun _ => True) ?hr ?hp (fun _ hk => hk) trivial (Below.refl _ _) (Nat.le_refl _) (by simp) ?_; (case hd => rfl); (case hg => rfl); (case hr => first | (go_simp; done) | (go_simp; rfl)); (case hp => exact (Reps.one (show Kd.M (Kd.int .i64) _ _ _ a0_2 [.int .i64 a0_2] from rfl) (Reps.one (show Kd.M (Kd.int .i64) _ _ _ a0_3 [.int .i64 a0_3] from rfl) (Reps.one (show Kd.M (Kd.int .i64) _ _ _ a0_4 [.int .i64 a0_4] from rfl) (Reps.one (show Kd.M (Kd.int .i64) _ _ _ (l0_5.length : Int) [.int .i64 (l0_5.length : Int)] from rfl) (Reps.none _ _)))))); intro v135 w21 ho22 hb hg_ hnew_; clear hg_ hnew_; (first | rw [← Ny134.out] at ho22 | (simp only [Int.reduceToNat] at ho22; rw [← Ny134.out] at ho22)); have n0_ := Aside0.mk (Kd.R_elder' (by (with_reducible repeat (first | apply Kd.R_alloc | apply Kd.R_drewN | apply Kd.R_drew)); exact HO132.out) (Kd.R_base ho22) hb); have n1_ := Aside0.mk (Kd.R_lower (Kd.R_new' ho22 (Kd.R_lt (by (with_reducible repeat (first | apply Kd.R_alloc | apply Kd.R_drewN | apply Kd.R_drew)); exact HO132.out))) (below_size (by repeat (first | (with_reducible first | exact HB.out | apply below_alloc | apply pw_below_drewN | apply below_drew1 | refine below_setA ?_ ‹_›) | exact HB.out)))); have n2_ := Aside0.mk (blk_below (blk_up BK128.out) hb); have n3_ := Aside0.mk (below_step (by repeat (first | (with_reducible first | exact HB.out | apply below_alloc | apply pw_below_drewN | apply below_drew1 | refine below_setA ?_ ‹_›) | exact HB.out)) hb); clear HO132; clear BK128; clear HB; have HO132 := n0_; have HO136 := n1_; have BK128 := n2_; have HB := n3_; clear n0_ n1_ n2_ n3_; clear hb ho22; obtain ⟨Ao23, co23, eo23⟩ := Kd.R_slice HO136.out; subst eo23) | ((with_reducible refine gate_callee (f := 54) rfl ?_); refine goesL_ (some 29) rfl rfl Tryz.func54 (by kernel_rfl) rfl #[.slice Ao23 y134.length co23] rfl (by (try simp only [List.map_toArray, List.map_cons, List.map_nil]); first | done | rfl | (simp only [List.length_drop, List.length_take]; rfl)) ?_; (with_reducible refine (num_Row_int.calls k _ _ y134 t137 _ ?side1 ?side2 A6.out).mono ?_); (case side1 => repeat (first | exact (Kd.R_reads' HO136.out).2.2 | (with_reducible refine Kd.C_alloc ?_ _) | (with_reducible refine Kd.C_drewN ?_ _) | (with_reducible refine Kd.C_drew ?_))); (case side2 => exact (Kd.R_reads' HO136.out).2.1); rintro e w24 ⟨rfl, hb⟩; refine ⟨_, rfl, ?_⟩; have n0_ := Aside0.mk (Kd.R_below (by (with_reducible repeat (first | apply Kd.R_alloc | apply Kd.R_drewN | apply Kd.R_drew)); exact HO132.out) hb); have n1_ := Aside0.mk (Kd.R_below (by (with_reducible repeat (first | apply Kd.R_alloc | apply Kd.R_drewN | apply Kd.R_drew)); exact HO136.out) hb); have n2_ := Aside0.mk (blk_below (blk_up BK128.out) hb); have n3_ := Aside0.mk (below_step (by repeat (first | (with_reducible first | exact HB.out | apply below_alloc | apply pw_below_drewN | apply below_drew1 | refine below_setA ?_ ‹_›) | exact HB.out)) hb); clear HO132; clear HO136; clear BK128; clear HB; have HO132 := n0_; have HO136 := n1_; have BK128 := n2_; have HB := n3_; clear n0_ n1_ n2_ n3_; (try clear hb); (try clear hb2); (try clear hk); (try clear hi)))
 have n0_ := Aside0.mk (Kd.R_drew HO132.out)
 have n1_ := Aside0.mk (Kd.R_drew HO136.out)
 have n2_ := Aside0.mk (blk_drew BK128.out)
 have n3_ := Aside0.mk (below_drew1 HB.out)
 clear HO132; clear HO136; clear BK128; clear HB; have HO132 := n0_; have HO136 := n1_; have BK128 := n2_; have HB := n3_; clear n0_ n1_ n2_ n3_
 refine start_ (n := 12) (S := fun w' => True) (ds := []) #[false, false, false, false, false, false, false, false, false, false, false, false] (by kernel_rfl) rfl rfl trivial (fun hHeld => ?_); refine with_tabW job_Bytes.tab5 job_Bytes.bits5 (fun HT_ HW_ => ?_)
 generalize w24.drew = w25 at HO132 HO136 BK128 HB hHeld ⊢
 refine pure_ (i := 0) (N := some 31) (v := ?_) (a' := ?_) #[true, false, false, false, false, false, false, false, false, false, false, false] rfl rfl (any_of HT_.out (by kernel_rfl)) (fun _ _ _ h => h) (Or.inl ⟨by rfl, ?_⟩) ?_ ?_
 rotate_left
 ·
  intro w'
  go_simp
  with_reducible rfl
 rotate_left
 ·
  simp only [Act.put, List.setIfInBounds_toArray, List.set_cons_zero, List.set_cons_succ, i64_w, i32_w]
  rfl
 refine pure_ (i := 1) (N := some 32) (v := ?_) (a' := ?_) #[true, true, false, false, false, false, false, false, false, false, false, false] rfl rfl (any_of HT_.out (by kernel_rfl)) (fun _ _ _ h => h) (Or.inl ⟨by rfl, ?_⟩) ?_ ?_
 rotate_left
 ·
  intro w'
  go_simp
  with_reducible rfl
 rotate_left
 ·
  simp only [Act.put, List.setIfInBounds_toArray, List.set_cons_zero, List.set_cons_succ, i64_w, i32_w]
  rfl
 refine pure_ (i := 5) (N := some 36) (v := ?_) (a' := ?_) #[true, true, false, false, false, true, false, false, false, false, false, false] rfl rfl (any_of HT_.out (by kernel_rfl)) (fun _ _ _ h => h) (Or.inl ⟨by rfl, ?_⟩) ?_ ?_
 rotate_left
 ·
  intro w'
  go_simp
  with_reducible rfl
 rotate_left
 ·
  simp only [Act.put, List.setIfInBounds_toArray, List.set_cons_zero, List.set_cons_succ, i64_w, i32_w]
  rfl
 refine inv_at [2, 3, 4, 6, 7, 8, 9, 10, 11] (fun a0_ b a w' => ∃ (v140 : Value), a = putSel a0_ b [(2, 33, .slice A0_5 l0_5.length c0_5), (3, 34, .string t138), (4, 35, .string (((t133 ++ a0_1) ++ t137) ++ t138)), (6, 37, .int .i64 a0_6), (7, 38, v140), (8, 39, .string t142), (9, 40, .string ((((t133 ++ a0_1) ++ t137) ++ t138) ++ t142)), (10, 2, .string ((((t133 ++ a0_1) ++ t137) ++ t138) ++ t142)), (11, 3, .int .i64 0)] ∧ (Kd.R (Kd.int .i64) 3 w' w.heap.size (fun k_ => some k_ ≠ (.slice Ao23 y134.length co23 : Value).ownBlock) (.slice Ao18 y130.length co18) y130) ∧ (Kd.R (Kd.int .i64) 3 w' w.heap.size (fun k_ => some k_ ≠ (.slice Ao18 y130.length co18 : Value).ownBlock) (.slice Ao23 y134.length co23) y134) ∧ (w'.heap[gb128]? = some (.cells #[.int .i64 a0_0, .string a0_1, .int .i64 a0_2, .int .i64 a0_3, .int .i64 a0_4, .slice A0_5 l0_5.length c0_5, .int .i64 a0_6] 63 (0, 0))) ∧ (Below w.heap.size w w') ∧ (b 7 = true → Kd.R (Kd.int .i64) 3 w' w.heap.size (fun k_ => some k_ ≠ (.slice Ao18 y130.length co18 : Value).ownBlock ∧ some k_ ≠ (.slice Ao23 y134.length co23 : Value).ownBlock) v140 y139)) HT_.out HW_.out (by kernel_rfl) (by kernel_rfl) ?_ ?_ ?_
 ·
  exact ⟨.bool false, by simp only [putSel, Bool.false_eq_true, if_false], (Kd.R_mono HO132.out (fun _ hk => by first | exact hk | exact hk.1 | exact hk.2 | exact hk.1.2 | exact hk.1.1)), (Kd.R_mono HO136.out (fun _ hk => by first | exact hk | exact hk.1 | exact hk.2 | exact hk.1.2 | exact hk.1.1)), BK128.out, HB.out, fun h_ => absurd h_ (by decide)⟩
 ·
  skip
  clear BK128 HB HO132 HO136
  refine steps_cons ?_ ?_
  ·
   rintro b a w' ⟨v140, ha, Q_HO132, Q_HO136, Q_BK128, Q_HB, Q_HO141⟩ hb_ hon hoff
   refine ⟨_, rfl, fun K hK => ?_⟩
   have e32 : a.tmps[32]? = some (.pointer (some ⟨gb128, 5, none⟩)) := by rw [ha]; exact (putSel_off rfl).trans rfl
   replace ha := Aside0.mk ha
   have HO132 := Aside0.mk Q_HO132; have HO136 := Aside0.mk Q_HO136; have BK128 := Aside0.mk Q_BK128; have HB := Aside0.mk Q_HB
   have hc0_ : w'.cell? ⟨gb128, 0, none⟩ = some (.int .i64 a0_0) := (blk_cell BK128.out 0).trans rfl
   have hc1_ : w'.cell? ⟨gb128, 1, none⟩ = some (.string a0_1) := (blk_cell BK128.out 1).trans rfl
   have hc2_ : w'.cell? ⟨gb128, 2, none⟩ = some (.int .i64 a0_2) := (blk_cell BK128.out 2).trans rfl
   have hc3_ : w'.cell? ⟨gb128, 3, none⟩ = some (.int .i64 a0_3) := (blk_cell BK128.out 3).trans rfl
   have hc4_ : w'.cell? ⟨gb128, 4, none⟩ = some (.int .i64 a0_4) := (blk_cell BK128.out 4).trans rfl
   have hc5_ : w'.cell? ⟨gb128, 5, none⟩ = some (.slice A0_5 l0_5.length c0_5) := (blk_cell BK128.out 5).trans rfl
   have hc6_ : w'.cell? ⟨gb128, 6, none⟩ = some (.int .i64 a0_6) := (blk_cell BK128.out 6).trans rfl
   refine value_ (w1 := w') (v := .slice A0_5 l0_5.length c0_5) (by rfl) rfl ?_ ?_
   ·
    go_simp
    (try simp only [i64_w])
    try rfl
   refine hK.out _ _ ⟨v140, (by rw [ha.out]; exact putSel_upk 0 hb_ rfl rfl rfl), Q_HO132, Q_HO136, Q_BK128, Q_HB, Q_HO141⟩
  refine steps_cons ?_ ?_
  ·
   rintro b a w' ⟨v140, ha, Q_HO132, Q_HO136, Q_BK128, Q_HB, Q_HO141⟩ hb_ hon hoff
   refine ⟨_, rfl, fun K hK => ?_⟩
   have e33 : a.tmps[33]? = some (.slice A0_5 l0_5.length c0_5) := by rw [ha]; exact putSel_on (e := (2, 33, .slice A0_5 l0_5.length c0_5)) 0 rfl rfl (hon 2 (by kernel_rfl)) rfl
   replace ha := Aside0.mk ha
   have HO132 := Aside0.mk Q_HO132; have HO136 := Aside0.mk Q_HO136; have BK128 := Aside0.mk Q_BK128; have HB := Aside0.mk Q_HB
   refine goes_ Tryz.func54 (by kernel_rfl) rfl #[.slice A0_5 l0_5.length c0_5] (by rfl) rfl rfl (by first | (simp only [List.map_toArray, List.map_cons, List.map_nil, Act.eval, Array.getD_eq_getD_getElem?, Option.getD_some, e33]; done) | (simp only [List.map_toArray, List.map_cons, List.map_nil, Act.eval, Array.getD_eq_getD_getElem?, Option.getD_some, e33]; rfl)) ?_
   with_reducible refine (num_Row_int.calls k _ _ l0_5 t138 _ ?side1 ?side2 A8.out).mono ?_
   (case side1 => repeat (first | exact (Kd.C_below HR0_5.out HB.out) | (with_reducible refine Kd.C_alloc ?_ _) | (with_reducible refine Kd.C_drewN ?_ _) | (with_reducible refine Kd.C_drew ?_)))
   (case side2 => exact HC0_5.out)
   rintro e w26 ⟨rfl, hb⟩
   refine ⟨_, rfl, ?_⟩
   have n0_ := Aside0.mk (Kd.R_below (by (with_reducible repeat (first | apply Kd.R_alloc | apply Kd.R_drewN | apply Kd.R_drew)); exact HO132.out) hb)
   have n1_ := Aside0.mk (Kd.R_below (by (with_reducible repeat (first | apply Kd.R_alloc | apply Kd.R_drewN | apply Kd.R_drew)); exact HO136.out) hb)
   have n2_ := Aside0.mk (blk_below (blk_up BK128.out) hb)
   have n3_ := Aside0.mk (below_step (by repeat (first | (with_reducible first | exact HB.out | apply below_alloc | apply pw_below_drewN | apply below_drew1 | refine below_setA ?_ ‹_›) | exact HB.out)) hb)
   have z_HO141 := fun (h0_ : b 7 = true) => (show Kd.R (Kd.int .i64) 3 w26 w.heap.size (fun k_ => some k_ ≠ (.slice Ao18 y130.length co18 : Value).ownBlock ∧ some k_ ≠ (.slice Ao23 y134.length co23 : Value).ownBlock) v140 y139 from by first | exact (Kd.R_below (by (with_reducible repeat (first | apply Kd.R_alloc | apply Kd.R_drewN | apply Kd.R_drew)); exact (Q_HO141 h0_)) hb) | exact Kd.R_mono (Kd.R_below (by (with_reducible repeat (first | apply Kd.R_alloc | apply Kd.R_drewN | apply Kd.R_drew)); exact (Q_HO141 h0_)) hb) (fun _ h_ => by first | trivial | exact h_ | exact h_.1))
   clear HO132; clear HO136; clear BK128; clear HB; have HO132 := n0_; have HO136 := n1_; have BK128 := n2_; have HB := n3_; clear n0_ n1_ n2_ n3_
   (try clear hb)
   (try clear hb2)
   (try clear hk)
   (try clear hi)
   refine hK.out _ _ ⟨v140, (by rw [ha.out]; exact putSel_upk 1 hb_ rfl rfl rfl), (by (with_reducible repeat (first | apply Kd.R_alloc | apply Kd.R_drewN | apply Kd.R_drew)); exact Kd.R_mono HO132.out (fun _ hk => by first | exact hk | exact hk.1 | exact hk.2 | exact hk.1.2 | exact hk.1.1)), (by (with_reducible repeat (first | apply Kd.R_alloc | apply Kd.R_drewN | apply Kd.R_drew)); exact Kd.R_mono HO136.out (fun _ hk => by first | exact hk | exact hk.1 | exact hk.2 | exact hk.1.2 | exact hk.1.1)), (blk_up BK128.out), (by repeat (first | (with_reducible first | exact HB.out | apply below_alloc | apply pw_below_drewN | apply below_drew1 | refine below_setA ?_ ‹_›) | exact HB.out)), z_HO141⟩
  refine steps_cons ?_ ?_
  ·
   rintro b a w' ⟨v140, ha, Q_HO132, Q_HO136, Q_BK128, Q_HB, Q_HO141⟩ hb_ hon hoff
   refine ⟨_, rfl, fun K hK => ?_⟩
   have e31 : a.tmps[31]? = some (.string ((t133 ++ a0_1) ++ t137)) := by rw [ha]; exact (putSel_off rfl).trans rfl
   have e34 : a.tmps[34]? = some (.string t138) := by rw [ha]; exact putSel_on (e := (3, 34, .string t138)) 1 rfl rfl (hon 3 (by kernel_rfl)) rfl
   replace ha := Aside0.mk ha
   have HO132 := Aside0.mk Q_HO132; have HO136 := Aside0.mk Q_HO136; have BK128 := Aside0.mk Q_BK128; have HB := Aside0.mk Q_HB
   refine value_ (w1 := w') (v := .string (((t133 ++ a0_1) ++ t137) ++ t138)) (by rfl) rfl ?_ ?_
   ·
    go_simp
    (try simp only [i64_w])
    try rfl
   refine hK.out _ _ ⟨v140, (by rw [ha.out]; exact putSel_upk 2 hb_ rfl rfl rfl), Q_HO132, Q_HO136, Q_BK128, Q_HB, Q_HO141⟩
  refine steps_cons ?_ ?_
  ·
   rintro b a w' ⟨v140, ha, Q_HO132, Q_HO136, Q_BK128, Q_HB, Q_HO141⟩ hb_ hon hoff
   refine ⟨_, rfl, fun K hK => ?_⟩
   have e36 : a.tmps[36]? = some (.pointer (some ⟨gb128, 6, none⟩)) := by rw [ha]; exact (putSel_off rfl).trans rfl
   replace ha := Aside0.mk ha
   have HO132 := Aside0.mk Q_HO132; have HO136 := Aside0.mk Q_HO136; have BK128 := Aside0.mk Q_BK128; have HB := Aside0.mk Q_HB
   have hc0_ : w'.cell? ⟨gb128, 0, none⟩ = some (.int .i64 a0_0) := (blk_cell BK128.out 0).trans rfl
   have hc1_ : w'.cell? ⟨gb128, 1, none⟩ = some (.string a0_1) := (blk_cell BK128.out 1).trans rfl
   have hc2_ : w'.cell? ⟨gb128, 2, none⟩ = some (.int .i64 a0_2) := (blk_cell BK128.out 2).trans rfl
   have hc3_ : w'.cell? ⟨gb128, 3, none⟩ = some (.int .i64 a0_3) := (blk_cell BK128.out 3).trans rfl
   have hc4_ : w'.cell? ⟨gb128, 4, none⟩ = some (.int .i64 a0_4) := (blk_cell BK128.out 4).trans rfl
   have hc5_ : w'.cell? ⟨gb128, 5, none⟩ = some (.slice A0_5 l0_5.length c0_5) := (blk_cell BK128.out 5).trans rfl
   have hc6_ : w'.cell? ⟨gb128, 6, none⟩ = some (.int .i64 a0_6) := (blk_cell BK128.out 6).trans rfl
   refine value_ (w1 := w') (v := .int .i64 a0_6) (by rfl) rfl ?_ ?_
   ·
    go_simp
    (try simp only [i64_w])
    try rfl
   refine hK.out _ _ ⟨v140, (by rw [ha.out]; exact putSel_upk 3 hb_ rfl rfl rfl), Q_HO132, Q_HO136, Q_BK128, Q_HB, fun h0_ => absurd ((hoff 7 (by kernel_rfl)).symm.trans h0_) (by decide)⟩
  refine steps_cons ?_ ?_
  ·
   rintro b a w' ⟨v140, ha, Q_HO132, Q_HO136, Q_BK128, Q_HB, Q_HO141⟩ hb_ hon hoff
   refine ⟨_, rfl, fun K hK => ?_⟩
   have e37 : a.tmps[37]? = some (.int .i64 a0_6) := by rw [ha]; exact putSel_on (e := (6, 37, .int .i64 a0_6)) 3 rfl rfl (hon 6 (by kernel_rfl)) rfl
   replace ha := Aside0.mk ha
   have HO132 := Aside0.mk Q_HO132; have HO136 := Aside0.mk Q_HO136; have BK128 := Aside0.mk Q_BK128; have HB := Aside0.mk Q_HB
   refine Kd.R_lit_step (Kd.int .i64) _ 3 ?hg (N := 38) ?hd (xs := ([a0_6] : List Int)) (inner := [.int .i64 a0_6]) (ok := fun _ => True) (okp := fun _ => True) ?hr ?hp (fun _ hk => hk) trivial (Below.refl _ _) (Nat.le_refl _) (by simp) ?_; (case hd => rfl); (case hg => rfl); (case hr => first | (go_simp; done) | (go_simp; rfl)); (case hp => exact (Reps.one (show Kd.M (Kd.int .i64) _ _ _ a0_6 [.int .i64 a0_6] from rfl) (Reps.none _ _)))
   intro v140 w26 ho27 hb hg_ hnew_
   clear hg_ hnew_
   (first | rw [← Ny139.out] at ho27 | (simp only [Int.reduceToNat] at ho27; rw [← Ny139.out] at ho27))
   have n0_ := Aside0.mk (Kd.R_elder' (by (with_reducible repeat (first | apply Kd.R_alloc | apply Kd.R_drewN | apply Kd.R_drew)); exact HO132.out) (Kd.R_base ho27) hb)
   have n1_ := Aside0.mk (Kd.R_elder' (by (with_reducible repeat (first | apply Kd.R_alloc | apply Kd.R_drewN | apply Kd.R_drew)); exact HO136.out) (Kd.R_base ho27) hb)
   have n2_ := Aside0.mk (Kd.R_lower (Kd.R_new' (Kd.R_new' ho27 (Kd.R_lt (by (with_reducible repeat (first | apply Kd.R_alloc | apply Kd.R_drewN | apply Kd.R_drew)); exact HO132.out))) (Kd.R_lt (by (with_reducible repeat (first | apply Kd.R_alloc | apply Kd.R_drewN | apply Kd.R_drew)); exact HO136.out))) (below_size (by repeat (first | (with_reducible first | exact HB.out | apply below_alloc | apply pw_below_drewN | apply below_drew1 | refine below_setA ?_ ‹_›) | exact HB.out))))
   have n3_ := Aside0.mk (blk_below (blk_up BK128.out) hb)
   have n4_ := Aside0.mk (below_step (by repeat (first | (with_reducible first | exact HB.out | apply below_alloc | apply pw_below_drewN | apply below_drew1 | refine below_setA ?_ ‹_›) | exact HB.out)) hb)
   clear HO132; clear HO136; clear BK128; clear HB; have HO132 := n0_; have HO136 := n1_; have HO141 := n2_; have BK128 := n3_; have HB := n4_; clear n0_ n1_ n2_ n3_ n4_; clear hb ho27
   refine hK.out _ _ ⟨v140, (by rw [ha.out]; exact putSel_upk 4 hb_ rfl rfl rfl), (by (with_reducible repeat (first | apply Kd.R_alloc | apply Kd.R_drewN | apply Kd.R_drew)); exact Kd.R_mono HO132.out (fun _ hk => by first | exact hk | exact hk.1 | exact hk.2 | exact hk.1.2 | exact hk.1.1)), (by (with_reducible repeat (first | apply Kd.R_alloc | apply Kd.R_drewN | apply Kd.R_drew)); exact Kd.R_mono HO136.out (fun _ hk => by first | exact hk | exact hk.1 | exact hk.2 | exact hk.1.2 | exact hk.1.1)), (blk_up BK128.out), (by repeat (first | (with_reducible first | exact HB.out | apply below_alloc | apply pw_below_drewN | apply below_drew1 | refine below_setA ?_ ‹_›) | exact HB.out)), fun _ => (by (with_reducible repeat (first | apply Kd.R_alloc | apply Kd.R_drewN | apply Kd.R_drew)); exact Kd.R_mono HO141.out (fun _ hk => ⟨hk.1.2, hk.2⟩))⟩
  refine steps_cons ?_ ?_
  ·
   rintro b a w' ⟨v140, ha, Q_HO132, Q_HO136, Q_BK128, Q_HB, Q_HO141⟩ hb_ hon hoff
   refine ⟨_, rfl, fun K hK => ?_⟩
   have e38 : a.tmps[38]? = some (v140) := by rw [ha]; exact putSel_on (e := (7, 38, v140)) 4 rfl rfl (hon 7 (by kernel_rfl)) rfl
   replace ha := Aside0.mk ha
   have HO132 := Aside0.mk Q_HO132; have HO136 := Aside0.mk Q_HO136; have BK128 := Aside0.mk Q_BK128; have HB := Aside0.mk Q_HB
   have HO141 := Aside0.mk (Q_HO141 (hon 7 (by kernel_rfl)))
   obtain ⟨Ao30, co30, eo30⟩ := Kd.R_slice HO141.out
   (first | subst eo30 | (injection eo30 with f1_ f2_ f3_; have f4_ := f1_.symm; have f5_ := f3_.symm; clear f1_ f2_ f3_; subst f4_; subst f5_))
   refine goes_ Tryz.func54 (by kernel_rfl) rfl #[.slice Ao30 y139.length co30] (by rfl) rfl rfl (by first | (simp only [List.map_toArray, List.map_cons, List.map_nil, Act.eval, Array.getD_eq_getD_getElem?, Option.getD_some, e38]; done) | (simp only [List.map_toArray, List.map_cons, List.map_nil, Act.eval, Array.getD_eq_getD_getElem?, Option.getD_some, e38]; rfl)) ?_
   with_reducible refine (num_Row_int.calls k _ _ y139 t142 _ ?side1 ?side2 A10.out).mono ?_
   (case side1 => repeat (first | exact (Kd.R_reads' HO141.out).2.2 | (with_reducible refine Kd.C_alloc ?_ _) | (with_reducible refine Kd.C_drewN ?_ _) | (with_reducible refine Kd.C_drew ?_)))
   (case side2 => exact (Kd.R_reads' HO141.out).2.1)
   rintro e w31 ⟨rfl, hb⟩
   refine ⟨_, rfl, ?_⟩
   have n0_ := Aside0.mk (Kd.R_below (by (with_reducible repeat (first | apply Kd.R_alloc | apply Kd.R_drewN | apply Kd.R_drew)); exact HO132.out) hb)
   have n1_ := Aside0.mk (Kd.R_below (by (with_reducible repeat (first | apply Kd.R_alloc | apply Kd.R_drewN | apply Kd.R_drew)); exact HO136.out) hb)
   have n2_ := Aside0.mk (Kd.R_below (by (with_reducible repeat (first | apply Kd.R_alloc | apply Kd.R_drewN | apply Kd.R_drew)); exact HO141.out) hb)
   have n3_ := Aside0.mk (blk_below (blk_up BK128.out) hb)
   have n4_ := Aside0.mk (below_step (by repeat (first | (with_reducible first | exact HB.out | apply below_alloc | apply pw_below_drewN | apply below_drew1 | refine below_setA ?_ ‹_›) | exact HB.out)) hb)
   clear HO132; clear HO136; clear HO141; clear BK128; clear HB; have HO132 := n0_; have HO136 := n1_; have HO141 := n2_; have BK128 := n3_; have HB := n4_; clear n0_ n1_ n2_ n3_ n4_
   (try clear hb)
   (try clear hb2)
   (try clear hk)
   (try clear hi)
   refine hK.out _ _ ⟨.slice Ao30 y139.length co30, (by rw [ha.out]; exact putSel_upk 5 hb_ rfl rfl rfl), (by (with_reducible repeat (first | apply Kd.R_alloc | apply Kd.R_drewN | apply Kd.R_drew)); exact HO132.out), (by (with_reducible repeat (first | apply Kd.R_alloc | apply Kd.R_drewN | apply Kd.R_drew)); exact HO136.out), (blk_up BK128.out), (by repeat (first | (with_reducible first | exact HB.out | apply below_alloc | apply pw_below_drewN | apply below_drew1 | refine below_setA ?_ ‹_›) | exact HB.out)), fun _ => (by (with_reducible repeat (first | apply Kd.R_alloc | apply Kd.R_drewN | apply Kd.R_drew)); exact HO141.out)⟩
  refine steps_cons ?_ ?_
  ·
   rintro b a w' ⟨v140, ha, Q_HO132, Q_HO136, Q_BK128, Q_HB, Q_HO141⟩ hb_ hon hoff
   refine ⟨_, rfl, fun K hK => ?_⟩
   have e35 : a.tmps[35]? = some (.string (((t133 ++ a0_1) ++ t137) ++ t138)) := by rw [ha]; exact putSel_on (e := (4, 35, .string (((t133 ++ a0_1) ++ t137) ++ t138))) 2 rfl rfl (hon 4 (by kernel_rfl)) rfl
   have e39 : a.tmps[39]? = some (.string t142) := by rw [ha]; exact putSel_on (e := (8, 39, .string t142)) 5 rfl rfl (hon 8 (by kernel_rfl)) rfl
   replace ha := Aside0.mk ha
   have HO132 := Aside0.mk Q_HO132; have HO136 := Aside0.mk Q_HO136; have BK128 := Aside0.mk Q_BK128; have HB := Aside0.mk Q_HB
   have HO141 := Aside0.mk (Q_HO141 (hon 7 (by kernel_rfl)))
   refine value_ (w1 := w') (v := .string ((((t133 ++ a0_1) ++ t137) ++ t138) ++ t142)) (by rfl) rfl ?_ ?_
   ·
    go_simp
    (try simp only [i64_w])
    try rfl
   refine hK.out _ _ ⟨v140, (by rw [ha.out]; exact putSel_upk 6 hb_ rfl rfl rfl), Q_HO132, Q_HO136, Q_BK128, Q_HB, Q_HO141⟩
  refine steps_cons ?_ ?_
  ·
   rintro b a w' ⟨v140, ha, Q_HO132, Q_HO136, Q_BK128, Q_HB, Q_HO141⟩ hb_ hon hoff
   refine ⟨_, rfl, fun K hK => ?_⟩
   have e40 : a.tmps[40]? = some (.string ((((t133 ++ a0_1) ++ t137) ++ t138) ++ t142)) := by rw [ha]; exact putSel_on (e := (9, 40, .string ((((t133 ++ a0_1) ++ t137) ++ t138) ++ t142))) 6 rfl rfl (hon 9 (by kernel_rfl)) rfl
   replace ha := Aside0.mk ha
   have HO132 := Aside0.mk Q_HO132; have HO136 := Aside0.mk Q_HO136; have BK128 := Aside0.mk Q_BK128; have HB := Aside0.mk Q_HB
   have HO141 := Aside0.mk (Q_HO141 (hon 7 (by kernel_rfl)))
   refine value_ (w1 := w') (v := .string ((((t133 ++ a0_1) ++ t137) ++ t138) ++ t142)) (by rfl) rfl ?_ ?_
   ·
    go_simp
    (try simp only [i64_w])
    try rfl
   refine hK.out _ _ ⟨v140, (by rw [ha.out]; exact putSel_upk 7 hb_ rfl rfl rfl), Q_HO132, Q_HO136, Q_BK128, Q_HB, Q_HO141⟩
  refine steps_cons ?_ ?_
  ·
   rintro b a w' ⟨v140, ha, Q_HO132, Q_HO136, Q_BK128, Q_HB, Q_HO141⟩ hb_ hon hoff
   refine ⟨_, rfl, fun K hK => ?_⟩
   replace ha := Aside0.mk ha
   have HO132 := Aside0.mk Q_HO132; have HO136 := Aside0.mk Q_HO136; have BK128 := Aside0.mk Q_BK128; have HB := Aside0.mk Q_HB
   have HO141 := Aside0.mk (Q_HO141 (hon 7 (by kernel_rfl)))
   refine value_ (w1 := w') (v := .int .i64 0) (by rfl) rfl ?_ ?_
   ·
    go_simp
    (try simp only [i64_w])
    try rfl
   refine hK.out _ _ ⟨v140, (by rw [ha.out]; exact putSel_upk 8 hb_ rfl rfl rfl), Q_HO132, Q_HO136, Q_BK128, Q_HB, Q_HO141⟩
  exact steps_nil
 rintro b a w31 hall ⟨v140, ha, Q_HO132, Q_HO136, Q_BK128, Q_HB, Q_HO141⟩
 clear BK128 HB HO132 HO136
 have hb2_ := hall 2 (by kernel_rfl)
 have hb3_ := hall 3 (by kernel_rfl)
 have hb4_ := hall 4 (by kernel_rfl)
 have hb6_ := hall 6 (by kernel_rfl)
 have hb7_ := hall 7 (by kernel_rfl)
 have hb8_ := hall 8 (by kernel_rfl)
 have hb9_ := hall 9 (by kernel_rfl)
 have hb10_ := hall 10 (by kernel_rfl)
 have hb11_ := hall 11 (by kernel_rfl)
 subst ha; simp only [putSel, hb2_, hb3_, hb4_, hb6_, hb7_, hb8_, hb9_, hb10_, hb11_, if_true, Act.put, List.setIfInBounds_toArray, List.set_cons_zero, List.set_cons_succ]; have HO132 := Aside0.mk Q_HO132; clear Q_HO132; have HO136 := Aside0.mk Q_HO136; clear Q_HO136; have BK128 := Aside0.mk Q_BK128; clear Q_BK128; have HB := Aside0.mk Q_HB; clear Q_HB
 have HO141 := Aside0.mk (Q_HO141 hb7_)
 clear Q_HO141; clear hall hb2_ hb3_ hb4_ hb6_ hb7_ hb8_ hb9_ hb10_ hb11_
 try go_wp2
 go_ret2
 exact ⟨by first | rfl | (simp [errW_none, errW_some] <;> rfl) | (simp [*, errW_none, errW_some] <;> rfl), by repeat (first | (with_reducible first | exact HB.out | apply below_alloc | apply pw_below_drewN | apply below_drew1 | refine below_setA ?_ ‹_›) | exact HB.out)⟩
def thresherref9_Way.f (a0 : Int) (a1 : Int) : Option (Bool) := if a0 = 6 then (if a1 ≥ 1 then (some (decide (a1 ≤ 32))) else (some false)) else (if a0 ≥ 1 then (if a0 < 6 then (some (a1 == 0)) else (some false)) else (some false))
set_option maxHeartbeats 8000000 in
set_option maxRecDepth 100000 in
theorem thresherref9_Way.calls (a0 : Int) (a1 : Int) (r : Bool) (w : World) (h : thresherref9_Way.f a0 a1 = some r) :
  Calls Tryz.prog 20 #[.int .i64 a0, .int .i64 a1] w fun e w' => e = .returned (.bool r) ∧ Drawn0 w w' := by
 have H : (if a0 = 6 then (if a1 ≥ 1 then (some (decide (a1 ≤ 32))) else (some false)) else (if a0 ≥ 1 then (if a0 < 6 then (some (a1 == 0)) else (some false)) else (some false))) = some r := h
 clear h
 by_cases c3 : a0 = 6
 ·
  rw [if_pos c3] at H
  have c3b0 : (a0 == 6) = true := beq_iff_eq.mpr c3
  have c3b1 : (a0 != 6) = false := bne_eq_false_iff_eq.mpr c3
  clear c3
  by_cases c4 : a1 ≥ 1
  ·
   rw [if_pos c4] at H
   have c4b0 : decide (1 ≤ a1) = true := decide_eq_true c4
   clear c4
   obtain rfl := Option.some.inj H
   go_enter Tryz.func20, Tryz.ntmps20
   go_wp2
   go_ret
   exact ⟨by first | rfl | (simp; done) | (simp [*]; done), by repeat (first | exact Drawn0.refl _ | apply Drawn0.step)⟩
  rw [if_neg c4] at H
  have c4b0 : decide (1 ≤ a1) = false := decide_eq_false c4
  clear c4
  obtain rfl := Option.some.inj H
  go_enter Tryz.func20, Tryz.ntmps20
  go_wp2
  go_ret
  exact ⟨by first | rfl | (simp; done) | (simp [*]; done), by repeat (first | exact Drawn0.refl _ | apply Drawn0.step)⟩
 rw [if_neg c3] at H
 have c3b0 : (a0 == 6) = false := beq_eq_false_iff_ne.mpr c3
 have c3b1 : (a0 != 6) = true := bne_iff_ne.mpr c3
 by_cases c5 : a0 ≥ 1
 rotate_left
 ·
  rw [if_neg c5] at H
  have c5b0 : decide (1 ≤ a0) = false := decide_eq_false c5
  clear c5
  obtain rfl := Option.some.inj H
  go_enter Tryz.func20, Tryz.ntmps20
  go_wp2
  go_ret
  exact ⟨by first | rfl | (simp; done) | (simp [*]; done), by repeat (first | exact Drawn0.refl _ | apply Drawn0.step)⟩
 rw [if_pos c5] at H
 have c5b0 : decide (1 ≤ a0) = true := decide_eq_true c5
 clear c5
 by_cases c6 : a0 < 6
 ·
  rw [if_pos c6] at H
  have c6b0 : decide (a0 < 6) = true := decide_eq_true c6
  clear c6
  obtain rfl := Option.some.inj H
  go_enter Tryz.func20, Tryz.ntmps20
  go_wp2
  go_ret
  exact ⟨by first | rfl | (simp; done) | (simp [*]; done), by repeat (first | exact Drawn0.refl _ | apply Drawn0.step)⟩
 rw [if_neg c6] at H
 have c6b0 : decide (a0 < 6) = false := decide_eq_false c6
 clear c6
 obtain rfl := Option.some.inj H
 go_enter Tryz.func20, Tryz.ntmps20
 go_wp2
 go_ret
 exact ⟨by first | rfl | (simp; done) | (simp [*]; done), by repeat (first | exact Drawn0.refl _ | apply Drawn0.step)⟩
def thresherref0_ID.f (a0 : Int) : Option (Bool) := if a0 ≥ 1 then (some (decide (a0 ≤ 1048576))) else (some false)
set_option maxHeartbeats 8000000 in
set_option maxRecDepth 100000 in
theorem thresherref0_ID.calls (a0 : Int) (r : Bool) (w : World) (h : thresherref0_ID.f a0 = some r) :
  Calls Tryz.prog 55 #[.int .i64 a0] w fun e w' => e = .returned (.bool r) ∧ Drawn0 w w' := by
 have H : (if a0 ≥ 1 then (some (decide (a0 ≤ 1048576))) else (some false)) = some r := h
 clear h
 by_cases c2 : a0 ≥ 1
 ·
  rw [if_pos c2] at H
  have c2b0 : decide (1 ≤ a0) = true := decide_eq_true c2
  clear c2
  obtain rfl := Option.some.inj H
  go_enter Tryz.func55, Tryz.ntmps55
  go_wp2
  go_ret
  exact ⟨by first | rfl | (simp; done) | (simp [*]; done), by repeat (first | exact Drawn0.refl _ | apply Drawn0.step)⟩
 rw [if_neg c2] at H
 have c2b0 : decide (1 ≤ a0) = false := decide_eq_false c2
 clear c2
 obtain rfl := Option.some.inj H
 go_enter Tryz.func55, Tryz.ntmps55
 go_wp2
 go_ret
 exact ⟨by first | rfl | (simp; done) | (simp [*]; done), by repeat (first | exact Drawn0.refl _ | apply Drawn0.step)⟩
def thresherref0_Num.f (a0 : Int) (a1 : Int) : Option (Bool) := if a0 ≥ 0 then (some (decide (a0 ≤ a1))) else (some false)
set_option maxHeartbeats 8000000 in
set_option maxRecDepth 100000 in
theorem thresherref0_Num.calls (a0 : Int) (a1 : Int) (r : Bool) (w : World) (h : thresherref0_Num.f a0 a1 = some r) :
  Calls Tryz.prog 56 #[.int .i64 a0, .int .i64 a1] w fun e w' => e = .returned (.bool r) ∧ Drawn0 w w' := by
 have H : (if a0 ≥ 0 then (some (decide (a0 ≤ a1))) else (some false)) = some r := h
 clear h
 by_cases c3 : a0 ≥ 0
 ·
  rw [if_pos c3] at H
  have c3b0 : decide (0 ≤ a0) = true := decide_eq_true c3
  clear c3
  obtain rfl := Option.some.inj H
  go_enter Tryz.func56, Tryz.ntmps56
  go_wp2
  go_ret
  exact ⟨by first | rfl | (simp; done) | (simp [*]; done), by repeat (first | exact Drawn0.refl _ | apply Drawn0.step)⟩
 rw [if_neg c3] at H
 have c3b0 : decide (0 ≤ a0) = false := decide_eq_false c3
 clear c3
 obtain rfl := Option.some.inj H
 go_enter Tryz.func56, Tryz.ntmps56
 go_wp2
 go_ret
 exact ⟨by first | rfl | (simp; done) | (simp [*]; done), by repeat (first | exact Drawn0.refl _ | apply Drawn0.step)⟩
def thresherref0_Rising.l0 : Nat → List Int → Int → Int → Int → Option (Bool)
 | 0, _, _, _, _ => none
 | k + 1, x0, x1, x2, x7 => if x7 < (x0.length : Int) then (if 0 ≤ x7 then (if (rd x0 x7) < x1 then (some false) else (if (rd x0 x7) > x2 then (some false) else (if x7 > 0 then (if 0 ≤ (wrap64 (x7 - 1)) then (if (wrap64 (x7 - 1)) < (x0.length : Int) then (if (rd x0 (wrap64 (x7 - 1))) ≥ (rd x0 x7) then (some false) else (thresherref0_Rising.l0 k x0 x1 x2 (wrap64 (x7 + 1)))) else (none)) else (none)) else (thresherref0_Rising.l0 k x0 x1 x2 (wrap64 (x7 + 1)))))) else (none)) else (some true)
def thresherref0_Rising.f (k : Nat) (l0 : List Int) (a1 : Int) (a2 : Int) : Option (Bool) := thresherref0_Rising.l0 k l0 a1 a2 0
set_option maxHeartbeats 8000000 in
set_option maxRecDepth 100000 in
theorem thresherref0_Rising.calls (k : Nat) (A0 : Option Addr) (c0 : Nat) (l0 : List Int) (a1 : Int) (a2 : Int) (r : Bool) (w : World) (hr0 : Kd.C (Kd.int .i64) w A0 l0.length l0) (hc0 : l0.length ≤ c0) (h : thresherref0_Rising.f k l0 a1 a2 = some r) :
  Calls Tryz.prog 57 #[.slice A0 l0.length c0, .int .i64 a1, .int .i64 a2] w fun e w' => e = .returned (.bool r) ∧ Drawn0 w w' := by
 have HR0 := Aside0.mk hr0; have HC0 := Aside0.mk hc0; clear hr0 hc0
 have H : (thresherref0_Rising.l0 k l0 a1 a2 0) = some r := h
 clear h
 have H' := Aside0.mk H
 clear H
 go_enter Tryz.func57, Tryz.ntmps57
 go_wp2
 repeat (go_quiet (fail); try go_wp2)
 go_loopg [7] k (fun kq v7 w' => ∃ (x7_1 : Int), v7 = .int .i64 x7_1 ∧ Aside0 (thresherref0_Rising.l0 kq l0 a1 a2 x7_1 = some r) ∧ Aside0 (kq ≤ k) ∧ Drawn0 w w')
 case atStart => exact ⟨(0), (by first | rfl | (simp; done) | (simp [*]; done)), H', ⟨Nat.le_refl _⟩, by repeat (first | exact Drawn0.refl _ | apply Drawn0.step)⟩
 case round =>
  clear H'
  obtain ⟨x7_1, rfl, HA, HK1, ⟨m1, rfl⟩⟩ := hrel
  cases gk with
  | zero => exact absurd HA.out (by simp [thresherref0_Rising.l0])
  | succ k1 =>
   have H := HA.out; clear HA
   simp only [thresherref0_Rising.l0] at H
   by_cases c4 : x7_1 < (l0.length : Int)
   rotate_left
   ·
    rw [if_neg c4] at H
    have c4b0 : decide (x7_1 < (l0.length : Int)) = false := decide_eq_false c4
    clear c4
    obtain rfl := Option.some.inj H
    go_wp2
    repeat (go_quiet (fail); try go_wp2)
    go_ret
    exact ⟨by first | rfl | (simp; done) | (simp [*]; done), by repeat (first | exact Drawn0.refl _ | apply Drawn0.step)⟩
   rw [if_pos c4] at H
   have c4b0 : decide (x7_1 < (l0.length : Int)) = true := decide_eq_true c4
   clear c4
   by_cases c5 : 0 ≤ x7_1
   rotate_left
   ·
    rw [if_neg c5] at H
    exact absurd H (by simp)
   rw [if_pos c5] at H
   have c5b0 : decide (0 ≤ x7_1) = true := decide_eq_true c5
   clear c5
   by_cases c6 : (rd l0 x7_1) < a1
   ·
    rw [if_pos c6] at H
    have c6b0 : decide ((rd l0 x7_1) < a1) = true := decide_eq_true c6
    clear c6
    obtain rfl := Option.some.inj H
    have p143 : 0 ≤ (x7_1 : Int) := of_decide_eq_true (by first | (with_reducible assumption) | assumption)
    have q143 : x7_1 < (l0.length : Int) := of_decide_eq_true (by first | (with_reducible assumption) | assumption)
    obtain ⟨ad143, e143, hx143_0⟩ := Kd.at_int HR0.out x7_1 p143 q143
    cases e143
    replace p143 := eq_true p143
    replace q143 := eq_true q143
    go_wp2
    repeat (go_quiet (fail); try go_wp2)
    go_ret
    exact ⟨by first | rfl | (simp; done) | (simp [*]; done), by repeat (first | exact Drawn0.refl _ | apply Drawn0.step)⟩
   rw [if_neg c6] at H
   have c6b0 : decide ((rd l0 x7_1) < a1) = false := decide_eq_false c6
   clear c6
   by_cases c7 : (rd l0 x7_1) > a2
   ·
    rw [if_pos c7] at H
    have c7b0 : decide (a2 < (rd l0 x7_1)) = true := decide_eq_true c7
    clear c7
    obtain rfl := Option.some.inj H
    have p143 : 0 ≤ (x7_1 : Int) := of_decide_eq_true (by first | (with_reducible assumption) | assumption)
    have q143 : x7_1 < (l0.length : Int) := of_decide_eq_true (by first | (with_reducible assumption) | assumption)
    obtain ⟨ad143, e143, hx143_0⟩ := Kd.at_int HR0.out x7_1 p143 q143
    cases e143
    replace p143 := eq_true p143
    replace q143 := eq_true q143
    have p144 : 0 ≤ (x7_1 : Int) := of_decide_eq_true (by first | (with_reducible assumption) | assumption)
    have q144 : x7_1 < (l0.length : Int) := of_decide_eq_true (by first | (with_reducible assumption) | assumption)
    obtain ⟨ad144, e144, hx144_0⟩ := Kd.at_int HR0.out x7_1 p144 q144
    obtain rfl : ad143 = ad144 := (by injection e144)
    replace p144 := eq_true p144
    replace q144 := eq_true q144
    go_wp2
    repeat (go_quiet (fail); try go_wp2)
    go_ret
    exact ⟨by first | rfl | (simp; done) | (simp [*]; done), by repeat (first | exact Drawn0.refl _ | apply Drawn0.step)⟩
   rw [if_neg c7] at H
   have c7b0 : decide (a2 < (rd l0 x7_1)) = false := decide_eq_false c7
   clear c7
   by_cases c8 : x7_1 > 0
   rotate_left
   ·
    rw [if_neg c8] at H
    have c8b0 : decide (0 < x7_1) = false := decide_eq_false c8
    clear c8
    have H' := Aside0.mk H
    clear H
    have p143 : 0 ≤ (x7_1 : Int) := of_decide_eq_true (by first | (with_reducible assumption) | assumption)
    have q143 : x7_1 < (l0.length : Int) := of_decide_eq_true (by first | (with_reducible assumption) | assumption)
    obtain ⟨ad143, e143, hx143_0⟩ := Kd.at_int HR0.out x7_1 p143 q143
    cases e143
    replace p143 := eq_true p143
    replace q143 := eq_true q143
    have p144 : 0 ≤ (x7_1 : Int) := of_decide_eq_true (by first | (with_reducible assumption) | assumption)
    have q144 : x7_1 < (l0.length : Int) := of_decide_eq_true (by first | (with_reducible assumption) | assumption)
    obtain ⟨ad144, e144, hx144_0⟩ := Kd.at_int HR0.out x7_1 p144 q144
    obtain rfl : ad143 = ad144 := (by injection e144)
    replace p144 := eq_true p144
    replace q144 := eq_true q144
    go_wp2
    repeat (go_quiet (fail); try go_wp2)
    go_roundg k1
    case measure => have := HK1.out; omega
    case rel => exact ⟨(wrap64 (x7_1 + 1)), (by first | rfl | (simp; done) | (simp [*]; done)), H', ⟨by have := HK1.out; omega⟩, by repeat (first | exact Drawn0.refl _ | apply Drawn0.step)⟩
   rw [if_pos c8] at H
   have c8b0 : decide (0 < x7_1) = true := decide_eq_true c8
   clear c8
   obtain ⟨ji9, hji9⟩ : ∃ j_ : Int, (wrap64 (x7_1 - 1)) = j_ := ⟨_, rfl⟩
   replace H : (if 0 ≤ (ji9) then (if (ji9) < (l0.length : Int) then (if (rd l0 (ji9)) ≥ (rd l0 x7_1) then (some false) else (thresherref0_Rising.l0 k1 l0 a1 a2 (wrap64 (x7_1 + 1)))) else (none)) else (none)) = some r := by first | (rw [hji9] at H; exact H) | (simp only [hji9] at H ⊢; exact H)
   have hji9w : (IntKind.i64.wrap (x7_1 - 1)) = ji9 := (i64_w _).trans hji9
   by_cases c10 : 0 ≤ (ji9)
   rotate_left
   ·
    rw [if_neg c10] at H
    exact absurd H (by simp)
   rw [if_pos c10] at H
   have c10b0 : decide (0 ≤ (ji9)) = true := decide_eq_true c10
   clear c10
   by_cases c11 : (ji9) < (l0.length : Int)
   rotate_left
   ·
    rw [if_neg c11] at H
    exact absurd H (by simp)
   rw [if_pos c11] at H
   have c11b0 : decide ((ji9) < (l0.length : Int)) = true := decide_eq_true c11
   clear c11
   by_cases c12 : (rd l0 (ji9)) ≥ (rd l0 x7_1)
   ·
    rw [if_pos c12] at H
    have c12b0 : decide ((rd l0 x7_1) ≤ (rd l0 (ji9))) = true := decide_eq_true c12
    clear c12
    obtain rfl := Option.some.inj H
    have p143 : 0 ≤ (x7_1 : Int) := of_decide_eq_true (by first | (with_reducible assumption) | assumption)
    have q143 : x7_1 < (l0.length : Int) := of_decide_eq_true (by first | (with_reducible assumption) | assumption)
    obtain ⟨ad143, e143, hx143_0⟩ := Kd.at_int HR0.out x7_1 p143 q143
    cases e143
    replace p143 := eq_true p143
    replace q143 := eq_true q143
    have p144 : 0 ≤ (x7_1 : Int) := of_decide_eq_true (by first | (with_reducible assumption) | assumption)
    have q144 : x7_1 < (l0.length : Int) := of_decide_eq_true (by first | (with_reducible assumption) | assumption)
    obtain ⟨ad144, e144, hx144_0⟩ := Kd.at_int HR0.out x7_1 p144 q144
    obtain rfl : ad143 = ad144 := (by injection e144)
    replace p144 := eq_true p144
    replace q144 := eq_true q144
    have p145 : 0 ≤ ((ji9) : Int) := of_decide_eq_true (by first | (with_reducible assumption) | assumption)
    have q145 : (ji9) < (l0.length : Int) := of_decide_eq_true (by first | (with_reducible assumption) | assumption)
    obtain ⟨ad145, e145, hx145_0⟩ := Kd.at_int HR0.out (ji9) p145 q145
    obtain rfl : ad143 = ad145 := (by injection e145)
    replace p145 := eq_true p145
    replace q145 := eq_true q145
    have p146 : 0 ≤ (x7_1 : Int) := of_decide_eq_true (by first | (with_reducible assumption) | assumption)
    have q146 : x7_1 < (l0.length : Int) := of_decide_eq_true (by first | (with_reducible assumption) | assumption)
    obtain ⟨ad146, e146, hx146_0⟩ := Kd.at_int HR0.out x7_1 p146 q146
    obtain rfl : ad143 = ad146 := (by injection e146)
    replace p146 := eq_true p146
    replace q146 := eq_true q146
    go_wp2
    repeat (go_quiet (fail); try go_wp2)
    go_ret
    exact ⟨by first | rfl | (simp; done) | (simp only [← hji9] <;> (first | rfl | simp)) | (simp [*]; done), by repeat (first | exact Drawn0.refl _ | apply Drawn0.step)⟩
   rw [if_neg c12] at H
   have c12b0 : decide ((rd l0 x7_1) ≤ (rd l0 (ji9))) = false := decide_eq_false c12
   clear c12
   have H' := Aside0.mk H
   clear H
   have p143 : 0 ≤ (x7_1 : Int) := of_decide_eq_true (by first | (with_reducible assumption) | assumption)
   have q143 : x7_1 < (l0.length : Int) := of_decide_eq_true (by first | (with_reducible assumption) | assumption)
   obtain ⟨ad143, e143, hx143_0⟩ := Kd.at_int HR0.out x7_1 p143 q143
   cases e143
   replace p143 := eq_true p143
   replace q143 := eq_true q143
   have p144 : 0 ≤ (x7_1 : Int) := of_decide_eq_true (by first | (with_reducible assumption) | assumption)
   have q144 : x7_1 < (l0.length : Int) := of_decide_eq_true (by first | (with_reducible assumption) | assumption)
   obtain ⟨ad144, e144, hx144_0⟩ := Kd.at_int HR0.out x7_1 p144 q144
   obtain rfl : ad143 = ad144 := (by injection e144)
   replace p144 := eq_true p144
   replace q144 := eq_true q144
   have p145 : 0 ≤ ((ji9) : Int) := of_decide_eq_true (by first | (with_reducible assumption) | assumption)
   have q145 : (ji9) < (l0.length : Int) := of_decide_eq_true (by first | (with_reducible assumption) | assumption)
   obtain ⟨ad145, e145, hx145_0⟩ := Kd.at_int HR0.out (ji9) p145 q145
   obtain rfl : ad143 = ad145 := (by injection e145)
   replace p145 := eq_true p145
   replace q145 := eq_true q145
   have p146 : 0 ≤ (x7_1 : Int) := of_decide_eq_true (by first | (with_reducible assumption) | assumption)
   have q146 : x7_1 < (l0.length : Int) := of_decide_eq_true (by first | (with_reducible assumption) | assumption)
   obtain ⟨ad146, e146, hx146_0⟩ := Kd.at_int HR0.out x7_1 p146 q146
   obtain rfl : ad143 = ad146 := (by injection e146)
   replace p146 := eq_true p146
   replace q146 := eq_true q146
   go_wp2
   repeat (go_quiet (fail); try go_wp2)
   go_roundg k1
   case measure => have := HK1.out; omega
   case rel => exact ⟨(wrap64 (x7_1 + 1)), (by first | rfl | (simp; done) | (simp [*]; done)), H', ⟨by have := HK1.out; omega⟩, by repeat (first | exact Drawn0.refl _ | apply Drawn0.step)⟩
def thresherref11_MayParts.f (a0 : Int) : Option (Bool) := if a0 ≥ 1 then (some (decide (a0 ≤ 8))) else (some false)
set_option maxHeartbeats 8000000 in
set_option maxRecDepth 100000 in
theorem thresherref11_MayParts.calls (a0 : Int) (r : Bool) (w : World) (h : thresherref11_MayParts.f a0 = some r) :
  Calls Tryz.prog 58 #[.int .i64 a0] w fun e w' => e = .returned (.bool r) ∧ Drawn0 w w' := by
 have H : (if a0 ≥ 1 then (some (decide (a0 ≤ 8))) else (some false)) = some r := h
 clear h
 by_cases c2 : a0 ≥ 1
 ·
  rw [if_pos c2] at H
  have c2b0 : decide (1 ≤ a0) = true := decide_eq_true c2
  clear c2
  obtain rfl := Option.some.inj H
  go_enter Tryz.func58, Tryz.ntmps58
  go_wp2
  go_ret
  exact ⟨by first | rfl | (simp; done) | (simp [*]; done), by repeat (first | exact Drawn0.refl _ | apply Drawn0.step)⟩
 rw [if_neg c2] at H
 have c2b0 : decide (1 ≤ a0) = false := decide_eq_false c2
 clear c2
 obtain rfl := Option.some.inj H
 go_enter Tryz.func58, Tryz.ntmps58
 go_wp2
 go_ret
 exact ⟨by first | rfl | (simp; done) | (simp [*]; done), by repeat (first | exact Drawn0.refl _ | apply Drawn0.step)⟩
end Go.Proofs.YtpepmmfhanaipaaGreatDoor.PJobBytes
