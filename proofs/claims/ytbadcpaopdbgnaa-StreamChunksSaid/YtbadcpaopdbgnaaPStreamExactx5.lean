-- Written by printx.py, a program of this workplace over the kit's printer; Lean checks it.
import Derived.Test.YtbadcpaopdbgnaaPStreamExactx0
import Derived.Test.YtbadcpaopdbgnaaPStreamExactx3
import Derived.Test.YtbadcpaopdbgnaaPStreamExactx4
namespace Go.Proofs.Ytbadcpaopdbgnaa.PStreamExact
open Go.RowKit Go.Proofs.YtbadcpaopdbgnaaW.PrintWords Go.Proofs.YtbadcpaopdbgnaaW.PrintLast Go.Proofs.YtbadcpaopdbgnaaW.PrintMore
attribute [local go_sem] max2_int min2_int max_two min_two max_three min_three max_four min_four   -- for this text's walks alone
set_option linter.unusedVariables false
set_option linter.unusedSimpArgs false

/-! ### stream_Take: function 25 -/
mutual
def stream_Take.j0 : Nat → Int → Int → Int → ByteArray → Bool → Int → Int → ByteArray → Bool → Option (Int × Int × ByteArray × Bool × Int × Bool × Int)
 | 0, _, _, _, _, _, _, _, _, _ => none
 | k + 1, x1, x2, x3, x4, x14, x143000, x143001, x143002, x143003 => (stream_Hears.f k x143000 x143001 x143002 x143003).bind fun t146 => (if t146 = true then (stream_Take.j1 k x1 x2 x3 x4 (!x14) x143000 x143001 x143002 x143003) else (stream_Take.j1 k x1 x2 x3 x4 true x143000 x143001 x143002 x143003))
def stream_Take.j1 : Nat → Int → Int → Int → ByteArray → Bool → Int → Int → ByteArray → Bool → Option (Int × Int × ByteArray × Bool × Int × Bool × Int)
 | 0, _, _, _, _, _, _, _, _, _ => none
 | k + 1, x1, x2, x3, x4, x36, x143000, x143001, x143002, x143003 => if x36 = true then (some (0, 0, (⟨#[]⟩ : ByteArray), false, 0, false, 1)) else (if x143000 = (-1) then (stream_Take.j2 k x1 x2 x3 x4 false x143000 x143001 x143002 x143003) else (if x143000 = x2 then (stream_Take.j2 k x1 x2 x3 x4 (x143001 != x3) x143000 x143001 x143002 x143003) else (stream_Take.j2 k x1 x2 x3 x4 true x143000 x143001 x143002 x143003)))
def stream_Take.j2 : Nat → Int → Int → Int → ByteArray → Bool → Int → Int → ByteArray → Bool → Option (Int × Int × ByteArray × Bool × Int × Bool × Int)
 | 0, _, _, _, _, _, _, _, _, _ => none
 | k + 1, x1, x2, x3, x4, x45, x143000, x143001, x143002, x143003 => if x45 = true then (some (0, 0, (⟨#[]⟩ : ByteArray), false, 0, false, 7)) else (if x143003 = true then (some (x143000, x143001, x143002, x143003, x143000, false, 0)) else (if x1 ≤ (x143002.size : Int) then (stream_Take.j3 k x1 x2 x3 x4 (x143002.size : Int) (decide ((wrap64 (x1 + (x4.size : Int))) > (x143002.size : Int))) x2 x3 x143002 x143003) else (stream_Take.j3 k x1 x2 x3 x4 (x143002.size : Int) false x2 x3 x143002 x143003)))
def stream_Take.j3 : Nat → Int → Int → Int → ByteArray → Int → Bool → Int → Int → ByteArray → Bool → Option (Int × Int × ByteArray × Bool × Int × Bool × Int)
 | 0, _, _, _, _, _, _, _, _, _, _ => none
 | k + 1, x1, x2, x3, x4, x15, x85, x143000, x143001, x143002, x143003 => if x85 = true then (if 0 ≤ (wrap64 (x15 - x1)) then (if (wrap64 (x15 - x1)) ≤ (x4.size : Int) then (if x143002.size + (x4.extract ((wrap64 (x15 - x1)) : Int).toNat x4.size).size ≤ 9223372036854775807 then (stream_Take.j4 k x2 x3 x15 x143000 x143001 (x143002 ++ (x4.extract ((wrap64 (x15 - x1)) : Int).toNat x4.size)) x143003) else (none)) else (none)) else (none)) else (stream_Take.j4 k x2 x3 x15 x143000 x143001 x143002 x143003)
def stream_Take.j4 : Nat → Int → Int → Int → Int → Int → ByteArray → Bool → Option (Int × Int × ByteArray × Bool × Int × Bool × Int)
 | 0, _, _, _, _, _, _, _ => none
 | k + 1, x2, x3, x15, x143000, x143001, x143002, x143003 => if (x143002.size : Int) = x2 then ((sum_Sum.f k x143002).bind fun t147 => (if t147 = x3 then (some (x143000, x143001, x143002, true, (x143002.size : Int), decide ((x143002.size : Int) > x15), 0)) else ((stream_New.f).bind fun bt148 => (some (bt148.1, bt148.2.1, bt148.2.2.1, bt148.2.2.2, 0, false, 8))))) else (some (x143000, x143001, x143002, x143003, (x143002.size : Int), decide ((x143002.size : Int) > x15), 0))
end
def stream_Take.f (k : Nat) (a0_0 : Int) (a0_1 : Int) (a0_2 : ByteArray) (a0_3 : Bool) (a1 : Int) (a2 : Int) (a3 : Int) (a4 : ByteArray) : Option (Int × Int × ByteArray × Bool × Int × Bool × Int) := (stream_within.f a2 1 32768).bind fun t144 => (if t144 = true then ((stream_within.f a1 0 a2).bind fun t145 => (if t145 = true then (if (a4.size : Int) ≤ 48 then (stream_Take.j0 k a1 a2 a3 a4 (decide ((a4.size : Int) ≤ (wrap64 (a2 - a1)))) a0_0 a0_1 a0_2 a0_3) else (stream_Take.j0 k a1 a2 a3 a4 false a0_0 a0_1 a0_2 a0_3)) else (stream_Take.j0 k a1 a2 a3 a4 false a0_0 a0_1 a0_2 a0_3))) else (stream_Take.j0 k a1 a2 a3 a4 false a0_0 a0_1 a0_2 a0_3))
def stream_Take.T11 : Bool × List (List Nat × List Nat) := (true, [([], []), ([0], [0]), ([], []), ([], []), ([], []), ([3, 4], [3, 4]), ([2, 5], [2, 5]), ([1, 6], [1, 6]), ([0, 1, 2, 3, 4, 5, 6, 7], []), ([8, 7, 0, 1, 2, 3, 4, 5, 6, 7], [7, 8])])
def stream_Take.B11 : List Nat := [0, 1, 0, 0, 0, 24, 60, 127, 255, 511]
theorem stream_Take.tab11 : rtab .any (opsOf Try.f25 11) = stream_Take.T11 := by kernel_rfl
theorem stream_Take.bits11 : waitsOk stream_Take.T11.2 stream_Take.B11 = true := by kernel_rfl
def stream_Take.T16 : Bool × List (List Nat × List Nat) := (true, [([], []), ([], []), ([1], [1]), ([2], [2]), ([], []), ([4], [4]), ([5], [5]), ([], []), ([6, 7], [6, 7]), ([0, 0], [0]), ([3, 9, 0, 1, 2, 3, 9], [3]), ([8, 10, 0, 1, 2, 3, 4, 5, 6, 7, 8, 9, 10], [8]), ([11, 0, 1, 2, 3, 4, 5, 6, 7, 8, 9, 10, 11], [])])
def stream_Take.B16 : List Nat := [0, 0, 2, 6, 0, 16, 48, 0, 240, 1, 527, 2047, 4095]
theorem stream_Take.tab16 : rtab .any (opsOf Try.f25 16) = stream_Take.T16 := by kernel_rfl
theorem stream_Take.bits16 : waitsOk stream_Take.T16.2 stream_Take.B16 = true := by kernel_rfl
set_option maxHeartbeats 8000000 in
set_option maxRecDepth 100000 in
theorem stream_Take.calls (k : Nat) (a0_0 : Int) (a0_1 : Int) (a0_2 : ByteArray) (a0_3 : Bool) (a1 : Int) (a2 : Int) (a3 : Int) (a4 : ByteArray) (r1 : Int) (r2 : Int) (r3 : ByteArray) (r4 : Bool) (r5 : Int) (r6 : Bool) (r7 : Int) (w : World) (h : stream_Take.f k a0_0 a0_1 a0_2 a0_3 a1 a2 a3 a4 = some (r1, r2, r3, r4, r5, r6, r7)) :
  Calls Try.prog 25 #[.agg #[.int .i64 a0_0, .int .u32 a0_1, .string a0_2, .bool a0_3], .int .i64 a1, .int .i64 a2, .int .u32 a3, .string a4] w fun e w' => e = .returned (.tuple #[.agg #[.int .i64 r1, .int .u32 r2, .string r3, .bool r4], .int .i64 r5, .bool r6, .int .i64 r7]) ∧ Below w.heap.size w w' := by
 have hu32 := Try.underlying32
 have HB := Aside0.mk (Below.refl w.heap.size w)
 have H : ((stream_within.f a2 1 32768).bind fun t144 => (if t144 = true then ((stream_within.f a1 0 a2).bind fun t145 => (if t145 = true then (if (a4.size : Int) ≤ 48 then (stream_Take.j0 k a1 a2 a3 a4 (decide ((a4.size : Int) ≤ (wrap64 (a2 - a1)))) a0_0 a0_1 a0_2 a0_3) else (stream_Take.j0 k a1 a2 a3 a4 false a0_0 a0_1 a0_2 a0_3)) else (stream_Take.j0 k a1 a2 a3 a4 false a0_0 a0_1 a0_2 a0_3))) else (stream_Take.j0 k a1 a2 a3 a4 false a0_0 a0_1 a0_2 a0_3))) = some (r1, r2, r3, r4, r5, r6, r7) := h
 clear h; have HC6 := Aside0.mk H; clear H
 go_enter Try.func25, Try.ntmps25
 go_upto_region 1 with (first | ((with_reducible refine gate_dst (N := 5) rfl ?_); (try (refine gate_guard (by rfl) ?_; dsimp only)); refine box_event ?hg (N := 5) ?hd (cs := #[.int .i64 a0_0, .int .u32 a0_1, .string a0_2, .bool a0_3]) (t := 32) ?hr ?_; (case hd => rfl); (case hg => rfl); (case hr => first | (go_simp; done) | (go_simp; rfl)); intro gb142 hg w7 hbox hb; have n0_ := Aside0.mk (below_step (by repeat (first | (with_reducible first | exact HB.out | apply below_alloc | apply pw_below_drewN | apply below_drew1) | exact HB.out)) hb); have n1_ := Aside0.mk (hbox); have n2_ := Aside0.mk ((by rw [hg]; exact (below_size (by repeat (first | (with_reducible first | exact HB.out | apply below_alloc | apply pw_below_drewN | apply below_drew1) | exact HB.out))) : w.heap.size ≤ gb142)); have n3_ := n2_; clear HB; have HB := n0_; have BK142 := n1_; have GW142 := n2_; have GE142 := n3_; clear n0_ n1_ n2_ n3_; clear hb hbox hg) | ((with_reducible refine gate_dst (N := 10) rfl ?_); (try (refine gate_guard (by rfl) ?_; dsimp only)); refine box_event ?hg (N := 10) ?hd (cs := #[.int .i64 0, .int .u32 0, .string (⟨#[]⟩ : ByteArray), .bool false]) (t := 32) ?hr ?_; (case hd => rfl); (case hg => rfl); (case hr => first | (go_simp; done) | (go_simp; rfl)); intro gb143 hg w8 hbox hb; have n0_ := Aside0.mk (blk_below (blk_up BK142.out) hb); have n1_ := Aside0.mk (below_step (by repeat (first | (with_reducible first | exact HB.out | apply below_alloc | apply pw_below_drewN | apply below_drew1 | refine below_setA ?_ ‹_›) | exact HB.out)) hb); have n2_ := Aside0.mk (hbox); have n3_ := Aside0.mk ((by rw [hg]; exact (below_size (by repeat (first | (with_reducible first | exact HB.out | apply below_alloc | apply pw_below_drewN | apply below_drew1 | refine below_setA ?_ ‹_›) | exact HB.out))) : w.heap.size ≤ gb143)); have n4_ := n3_; have n5_ := Aside0.mk ((by rw [hg]; exact Nat.ne_of_lt (blk_lt (blk_up BK142.out)) : gb142 ≠ gb143)); have n6_ := Aside0.mk ((by rw [hg]; exact Nat.ne_of_gt (blk_lt (blk_up BK142.out)) : gb143 ≠ gb142)); clear BK142; clear HB; have BK142 := n0_; have HB := n1_; have BK143 := n2_; have GW143 := n3_; have GE143 := n4_; have NB142_143 := n5_; have NB143_142 := n6_; clear n0_ n1_ n2_ n3_ n4_ n5_ n6_; clear hb hbox hg))
 (try simp only [Act.put, List.setIfInBounds_toArray, List.set_cons_zero, List.set_cons_succ])
 go_cut [14] (fun v14 wc => ∃ (kq : Nat) (x14_5 : Bool), v14 = .bool x14_5 ∧ Aside0 (stream_Take.j0 kq a1 a2 a3 a4 x14_5 a0_0 a0_1 a0_2 a0_3 = some (r1, r2, r3, r4, r5, r6, r7)) ∧ Aside0 (kq ≤ k) ∧ Aside0 (wc.heap[gb142]? = some (.cells #[.int .i64 a0_0, .int .u32 a0_1, .string a0_2, .bool a0_3] 32 (0, 0))) ∧ Aside0 (wc.heap[gb143]? = some (.cells #[.int .i64 0, .int .u32 0, .string (⟨#[]⟩ : ByteArray), .bool false] 32 (0, 0))) ∧ Aside0 (Below w.heap.size w wc))
 case first =>
  have H := HC6.out; clear HC6
  replace H := Option.bind_eq_some_iff.mp H
  obtain ⟨t144, A90, H⟩ := H
  replace H : (if t144 = true then ((stream_within.f a1 0 a2).bind fun t145 => (if t145 = true then (if (a4.size : Int) ≤ 48 then (stream_Take.j0 k a1 a2 a3 a4 (decide ((a4.size : Int) ≤ (wrap64 (a2 - a1)))) a0_0 a0_1 a0_2 a0_3) else (stream_Take.j0 k a1 a2 a3 a4 false a0_0 a0_1 a0_2 a0_3)) else (stream_Take.j0 k a1 a2 a3 a4 false a0_0 a0_1 a0_2 a0_3))) else (stream_Take.j0 k a1 a2 a3 a4 false a0_0 a0_1 a0_2 a0_3)) = some (r1, r2, r3, r4, r5, r6, r7) := H
  have A9 := Aside0.mk A90; clear A90
  by_cases c10 : t144 = true
  rotate_left
  ·
   replace c10 := Bool.eq_false_iff.mpr c10
   subst c10
   have H1 : (stream_Take.j0 k a1 a2 a3 a4 false a0_0 a0_1 a0_2 a0_3) = some (r1, r2, r3, r4, r5, r6, r7) := by rw [if_neg (show ¬ (false = true) by decide)] at H; exact H
   clear H; have H := H1; clear H1
   have H' := Aside0.mk H
   clear H
   go_wp2_with (first | ((with_reducible refine gate_callee (f := 36) rfl ?_); refine goesL_ (some 17) rfl rfl Try.func36 (by kernel_rfl) rfl #[.int .i64 a2, .int .i64 1, .int .i64 32768] rfl (by (try simp only [List.map_toArray, List.map_cons, List.map_nil]); first | done | rfl | (simp only [List.length_drop, List.length_take]; rfl)) ?_; (with_reducible refine (stream_within.calls a2 1 32768 false _ A9.out).mono ?_); rintro e w' ⟨rfl, ⟨nd, rfl⟩⟩; refine ⟨_, rfl, ?_⟩))
   go_meet
   case rel => exact ⟨_, (false), (by first | rfl | (simp; done) | (simp [*]; done)), H', ⟨by first | omega | exact Nat.le_refl _⟩, ⟨blk_up BK142.out⟩, ⟨blk_up BK143.out⟩, ⟨by repeat (first | (with_reducible first | exact HB.out | apply below_alloc | apply pw_below_drewN | apply below_drew1 | refine below_setA ?_ ‹_›) | exact HB.out)⟩⟩
  subst c10
  have H1 : ((stream_within.f a1 0 a2).bind fun t145 => (if t145 = true then (if (a4.size : Int) ≤ 48 then (stream_Take.j0 k a1 a2 a3 a4 (decide ((a4.size : Int) ≤ (wrap64 (a2 - a1)))) a0_0 a0_1 a0_2 a0_3) else (stream_Take.j0 k a1 a2 a3 a4 false a0_0 a0_1 a0_2 a0_3)) else (stream_Take.j0 k a1 a2 a3 a4 false a0_0 a0_1 a0_2 a0_3))) = some (r1, r2, r3, r4, r5, r6, r7) := by rw [if_pos rfl] at H; exact H
  clear H; have H := H1; clear H1
  replace H := Option.bind_eq_some_iff.mp H
  obtain ⟨t145, A110, H⟩ := H
  replace H : (if t145 = true then (if (a4.size : Int) ≤ 48 then (stream_Take.j0 k a1 a2 a3 a4 (decide ((a4.size : Int) ≤ (wrap64 (a2 - a1)))) a0_0 a0_1 a0_2 a0_3) else (stream_Take.j0 k a1 a2 a3 a4 false a0_0 a0_1 a0_2 a0_3)) else (stream_Take.j0 k a1 a2 a3 a4 false a0_0 a0_1 a0_2 a0_3)) = some (r1, r2, r3, r4, r5, r6, r7) := H
  have A11 := Aside0.mk A110; clear A110
  by_cases c12 : t145 = true
  rotate_left
  ·
   replace c12 := Bool.eq_false_iff.mpr c12
   subst c12
   have H1 : (stream_Take.j0 k a1 a2 a3 a4 false a0_0 a0_1 a0_2 a0_3) = some (r1, r2, r3, r4, r5, r6, r7) := by rw [if_neg (show ¬ (false = true) by decide)] at H; exact H
   clear H; have H := H1; clear H1
   have H' := Aside0.mk H
   clear H
   go_wp2_with (first | ((with_reducible refine gate_callee (f := 36) rfl ?_); refine goesL_ (some 17) rfl rfl Try.func36 (by kernel_rfl) rfl #[.int .i64 a2, .int .i64 1, .int .i64 32768] rfl (by (try simp only [List.map_toArray, List.map_cons, List.map_nil]); first | done | rfl | (simp only [List.length_drop, List.length_take]; rfl)) ?_; (with_reducible refine (stream_within.calls a2 1 32768 true _ A9.out).mono ?_); rintro e w' ⟨rfl, ⟨nd, rfl⟩⟩; refine ⟨_, rfl, ?_⟩) | (go_at_call 36; (with_reducible refine (stream_within.calls a1 0 a2 false _ A11.out).mono ?_); rintro e w' ⟨rfl, ⟨nd, rfl⟩⟩))
   go_meet
   case rel => exact ⟨_, (false), (by first | rfl | (simp; done) | (simp [*]; done)), H', ⟨by first | omega | exact Nat.le_refl _⟩, ⟨blk_up BK142.out⟩, ⟨blk_up BK143.out⟩, ⟨by repeat (first | (with_reducible first | exact HB.out | apply below_alloc | apply pw_below_drewN | apply below_drew1 | refine below_setA ?_ ‹_›) | exact HB.out)⟩⟩
  subst c12
  have H1 : (if (a4.size : Int) ≤ 48 then (stream_Take.j0 k a1 a2 a3 a4 (decide ((a4.size : Int) ≤ (wrap64 (a2 - a1)))) a0_0 a0_1 a0_2 a0_3) else (stream_Take.j0 k a1 a2 a3 a4 false a0_0 a0_1 a0_2 a0_3)) = some (r1, r2, r3, r4, r5, r6, r7) := by rw [if_pos rfl] at H; exact H
  clear H; have H := H1; clear H1
  by_cases c13 : (a4.size : Int) ≤ 48
  rotate_left
  ·
   rw [if_neg c13] at H
   have c13b0 : decide ((a4.size : Int) ≤ 48) = false := decide_eq_false c13
   have c13b1 : decide (a4.size ≤ 48) = false := decide_eq_false (by omega)
   clear c13
   (first | rw [c13b0] | (simp only [i64_w, i32_w]; rw [c13b0]) | skip)
   have H' := Aside0.mk H
   clear H
   go_wp2_with (first | ((with_reducible refine gate_callee (f := 36) rfl ?_); refine goesL_ (some 17) rfl rfl Try.func36 (by kernel_rfl) rfl #[.int .i64 a2, .int .i64 1, .int .i64 32768] rfl (by (try simp only [List.map_toArray, List.map_cons, List.map_nil]); first | done | rfl | (simp only [List.length_drop, List.length_take]; rfl)) ?_; (with_reducible refine (stream_within.calls a2 1 32768 true _ A9.out).mono ?_); rintro e w' ⟨rfl, ⟨nd, rfl⟩⟩; refine ⟨_, rfl, ?_⟩) | (go_at_call 36; (with_reducible refine (stream_within.calls a1 0 a2 true _ A11.out).mono ?_); rintro e w' ⟨rfl, ⟨nd, rfl⟩⟩))
   go_meet
   case rel => exact ⟨_, (false), (by first | rfl | (simp; done) | (simp [*]; done)), H', ⟨by first | omega | exact Nat.le_refl _⟩, ⟨blk_up BK142.out⟩, ⟨blk_up BK143.out⟩, ⟨by repeat (first | (with_reducible first | exact HB.out | apply below_alloc | apply pw_below_drewN | apply below_drew1 | refine below_setA ?_ ‹_›) | exact HB.out)⟩⟩
  rw [if_pos c13] at H
  have c13b0 : decide ((a4.size : Int) ≤ 48) = true := decide_eq_true c13
  have c13b1 : decide (a4.size ≤ 48) = true := decide_eq_true (by omega)
  clear c13
  (first | rw [c13b0] | (simp only [i64_w, i32_w]; rw [c13b0]) | skip)
  have H' := Aside0.mk H
  clear H
  go_wp2_with (first | ((with_reducible refine gate_callee (f := 36) rfl ?_); refine goesL_ (some 17) rfl rfl Try.func36 (by kernel_rfl) rfl #[.int .i64 a2, .int .i64 1, .int .i64 32768] rfl (by (try simp only [List.map_toArray, List.map_cons, List.map_nil]); first | done | rfl | (simp only [List.length_drop, List.length_take]; rfl)) ?_; (with_reducible refine (stream_within.calls a2 1 32768 true _ A9.out).mono ?_); rintro e w' ⟨rfl, ⟨nd, rfl⟩⟩; refine ⟨_, rfl, ?_⟩) | (go_at_call 36; (with_reducible refine (stream_within.calls a1 0 a2 true _ A11.out).mono ?_); rintro e w' ⟨rfl, ⟨nd, rfl⟩⟩))
  go_meet
  case rel => exact ⟨_, (decide ((a4.size : Int) ≤ (wrap64 (a2 - a1)))), (by first | rfl | (simp; done) | (simp [*]; done)), H', ⟨by first | omega | exact Nat.le_refl _⟩, ⟨blk_up BK142.out⟩, ⟨blk_up BK143.out⟩, ⟨by repeat (first | (with_reducible first | exact HB.out | apply below_alloc | apply pw_below_drewN | apply below_drew1 | refine below_setA ?_ ‹_›) | exact HB.out)⟩⟩
 case rest =>
  clear HC6
  obtain ⟨kq, x14_5, rfl, HA, HJ5, BK142, BK143, HB⟩ := hcut
  cases kq with
  | zero => exact absurd HA.out (by simp [stream_Take.j0])
  | succ kj5 =>
   have H := HA.out; clear HA
   simp only [stream_Take.j0] at H
   have HC14 := Aside0.mk H; clear H
   go_upto_region 2 with (fail)
   go_cut [36] (fun v36 wc => ∃ (kq : Nat) (x36_13 : Bool), v36 = .bool x36_13 ∧ Aside0 (stream_Take.j1 kq a1 a2 a3 a4 x36_13 a0_0 a0_1 a0_2 a0_3 = some (r1, r2, r3, r4, r5, r6, r7)) ∧ Aside0 (kq ≤ kj5) ∧ Aside0 (wc.heap[gb142]? = some (.cells #[.int .i64 a0_0, .int .u32 a0_1, .string a0_2, .bool a0_3] 32 (0, 0))) ∧ Aside0 (wc.heap[gb143]? = some (.cells #[.int .i64 0, .int .u32 0, .string (⟨#[]⟩ : ByteArray), .bool false] 32 (0, 0))) ∧ Aside0 (Below w.heap.size w wc))
   case first =>
    have H := HC14.out; clear HC14
    replace H := Option.bind_eq_some_iff.mp H
    obtain ⟨t146, A150, H⟩ := H
    replace H : (if t146 = true then (stream_Take.j1 kj5 a1 a2 a3 a4 (!x14_5) a0_0 a0_1 a0_2 a0_3) else (stream_Take.j1 kj5 a1 a2 a3 a4 true a0_0 a0_1 a0_2 a0_3)) = some (r1, r2, r3, r4, r5, r6, r7) := H
    have A15 := Aside0.mk A150; clear A150
    by_cases c16 : t146 = true
    ·
     subst c16
     have H1 : (stream_Take.j1 kj5 a1 a2 a3 a4 (!x14_5) a0_0 a0_1 a0_2 a0_3) = some (r1, r2, r3, r4, r5, r6, r7) := by rw [if_pos rfl] at H; exact H
     clear H; have H := H1; clear H1
     have H' := Aside0.mk H
     clear H; have hnb17 := NB142_143.out; have hnc17 := NB143_142.out
     obtain ⟨hcz18_0, hcz18_1, hcz18_2, hcz18_3, hfz18_0, hfz18_1, hfz18_2, hfz18_3⟩ := blkall_4 BK142.out
     go_wp2_with (first | ((with_reducible refine gate_callee (f := 37) rfl ?_); refine goesL_ (some 38) rfl rfl Try.func37 (by kernel_rfl) rfl #[.agg #[.int .i64 a0_0, .int .u32 a0_1, .string a0_2, .bool a0_3]] rfl (by (try simp only [List.map_toArray, List.map_cons, List.map_nil]); first | done | rfl | (simp only [List.length_drop, List.length_take]; rfl)) ?_; (with_reducible refine (stream_Hears.calls kj5 a0_0 a0_1 a0_2 a0_3 true _ A15.out).mono ?_); rintro e w19 ⟨rfl, hb⟩; refine ⟨_, rfl, ?_⟩; have n0_ := Aside0.mk (blk_below (blk_up BK142.out) hb); have n1_ := Aside0.mk (blk_below (blk_up BK143.out) hb); have n2_ := Aside0.mk (below_step (by repeat (first | (with_reducible first | exact HB.out | apply below_alloc | apply pw_below_drewN | apply below_drew1 | refine below_setA ?_ ‹_›) | exact HB.out)) hb); clear BK142; clear BK143; clear HB; have BK142 := n0_; have BK143 := n1_; have HB := n2_; clear n0_ n1_ n2_; (try clear hb); (try clear hb2); (try clear hk); (try clear hi)))
     go_meet
     case rel => exact ⟨_, (!x14_5), (by first | rfl | (simp; done) | (simp [*]; done)), H', ⟨by have := HJ5.out; first | omega | exact Nat.le_refl _⟩, ⟨blk_up BK142.out⟩, ⟨blk_up BK143.out⟩, ⟨by repeat (first | (with_reducible first | exact HB.out | apply below_alloc | apply pw_below_drewN | apply below_drew1 | refine below_setA ?_ ‹_›) | exact HB.out)⟩⟩
    replace c16 := Bool.eq_false_iff.mpr c16
    subst c16
    have H1 : (stream_Take.j1 kj5 a1 a2 a3 a4 true a0_0 a0_1 a0_2 a0_3) = some (r1, r2, r3, r4, r5, r6, r7) := by rw [if_neg (show ¬ (false = true) by decide)] at H; exact H
    clear H; have H := H1; clear H1
    have H' := Aside0.mk H
    clear H; have hnb20 := NB142_143.out; have hnc20 := NB143_142.out
    obtain ⟨hcz21_0, hcz21_1, hcz21_2, hcz21_3, hfz21_0, hfz21_1, hfz21_2, hfz21_3⟩ := blkall_4 BK142.out
    go_wp2_with (first | ((with_reducible refine gate_callee (f := 37) rfl ?_); refine goesL_ (some 38) rfl rfl Try.func37 (by kernel_rfl) rfl #[.agg #[.int .i64 a0_0, .int .u32 a0_1, .string a0_2, .bool a0_3]] rfl (by (try simp only [List.map_toArray, List.map_cons, List.map_nil]); first | done | rfl | (simp only [List.length_drop, List.length_take]; rfl)) ?_; (with_reducible refine (stream_Hears.calls kj5 a0_0 a0_1 a0_2 a0_3 false _ A15.out).mono ?_); rintro e w22 ⟨rfl, hb⟩; refine ⟨_, rfl, ?_⟩; have n0_ := Aside0.mk (blk_below (blk_up BK142.out) hb); have n1_ := Aside0.mk (blk_below (blk_up BK143.out) hb); have n2_ := Aside0.mk (below_step (by repeat (first | (with_reducible first | exact HB.out | apply below_alloc | apply pw_below_drewN | apply below_drew1 | refine below_setA ?_ ‹_›) | exact HB.out)) hb); clear BK142; clear BK143; clear HB; have BK142 := n0_; have BK143 := n1_; have HB := n2_; clear n0_ n1_ n2_; (try clear hb); (try clear hb2); (try clear hk); (try clear hi)))
    go_meet
    case rel => exact ⟨_, (true), (by first | rfl | (simp; done) | (simp [*]; done)), H', ⟨by have := HJ5.out; first | omega | exact Nat.le_refl _⟩, ⟨blk_up BK142.out⟩, ⟨blk_up BK143.out⟩, ⟨by repeat (first | (with_reducible first | exact HB.out | apply below_alloc | apply pw_below_drewN | apply below_drew1 | refine below_setA ?_ ‹_›) | exact HB.out)⟩⟩
   case rest =>
    clear HC14
    obtain ⟨kq, x36_13, rfl, HA, HJ13, BK142, BK143, HB⟩ := hcut
    cases kq with
    | zero => exact absurd HA.out (by simp [stream_Take.j1])
    | succ kj13 =>
     have H := HA.out; clear HA
     simp only [stream_Take.j1] at H
     by_cases c23 : x36_13 = true
     ·
      subst c23
      have H1 : (some (0, 0, (⟨#[]⟩ : ByteArray), false, 0, false, 1)) = some (r1, r2, r3, r4, r5, r6, r7) := by rw [if_pos rfl] at H; exact H
      clear H; have H := H1; clear H1
      simp only [Option.some.injEq, Prod.mk.injEq] at H
      obtain ⟨rfl, rfl, rfl, rfl, rfl, rfl, rfl⟩ := H
      have hnb24 := NB143_142.out; have hnc24 := NB142_143.out
      obtain ⟨hcz25_0, hcz25_1, hcz25_2, hcz25_3, hfz25_0, hfz25_1, hfz25_2, hfz25_3⟩ := blkall_4 BK143.out
      go_wp2
      refine bodyPost_ret (results_list (rs := [.cell 10 32, .tmp 11, .tmp 12, .tmp 13]) rfl (by simp) (.cell gb143 32 #[.int .i64 0, .int .u32 0, .string (⟨#[]⟩ : ByteArray), .bool false] (0, 0) _ rfl (by refine blk_up ?_; refine blk_put (cs := #[.int .i64 0, .int .u32 0, .string (⟨#[]⟩ : ByteArray), .bool false]) ?_ 3 _ rfl; refine blk_up ?_; refine blk_put (cs := #[.int .i64 0, .int .u32 0, .string (⟨#[]⟩ : ByteArray), .bool false]) ?_ 2 _ rfl; refine blk_up ?_; refine blk_put (cs := #[.int .i64 0, .int .u32 0, .string (⟨#[]⟩ : ByteArray), .bool false]) ?_ 1 _ rfl; refine blk_up ?_; refine blk_put (cs := #[.int .i64 0, .int .u32 0, .string (⟨#[]⟩ : ByteArray), .bool false]) ?_ 0 _ rfl; refine blk_up ?_; exact BK143.out) Try.underlying32 rfl (by kernel_rfl) (.tmp (.tmp (.tmp .nil))))) rfl ?_
      exact ⟨by first | rfl | (simp [errW_none, errW_some] <;> rfl) | (simp [*, errW_none, errW_some] <;> rfl), by repeat (first | (with_reducible first | exact HB.out | apply below_alloc | apply pw_below_drewN | apply below_drew1 | refine below_setA ?_ ‹_›) | exact HB.out)⟩
     replace c23 := Bool.eq_false_iff.mpr c23
     subst c23
     have H1 : (if a0_0 = (-1) then (stream_Take.j2 kj13 a1 a2 a3 a4 false a0_0 a0_1 a0_2 a0_3) else (if a0_0 = a2 then (stream_Take.j2 kj13 a1 a2 a3 a4 (a0_1 != a3) a0_0 a0_1 a0_2 a0_3) else (stream_Take.j2 kj13 a1 a2 a3 a4 true a0_0 a0_1 a0_2 a0_3))) = some (r1, r2, r3, r4, r5, r6, r7) := by rw [if_neg (show ¬ (false = true) by decide)] at H; exact H
     clear H; have H := H1; clear H1; have HC26 := Aside0.mk H; clear H
     go_upto_region 4 with (fail)
     go_cut [45] (fun v45 wc => ∃ (kq : Nat) (x45_25 : Bool), v45 = .bool x45_25 ∧ Aside0 (stream_Take.j2 kq a1 a2 a3 a4 x45_25 a0_0 a0_1 a0_2 a0_3 = some (r1, r2, r3, r4, r5, r6, r7)) ∧ Aside0 (kq ≤ kj13) ∧ Aside0 (wc.heap[gb142]? = some (.cells #[.int .i64 a0_0, .int .u32 a0_1, .string a0_2, .bool a0_3] 32 (0, 0))) ∧ Aside0 (wc.heap[gb143]? = some (.cells #[.int .i64 0, .int .u32 0, .string (⟨#[]⟩ : ByteArray), .bool false] 32 (0, 0))) ∧ Aside0 (Below w.heap.size w wc))
     case first =>
      have H := HC26.out; clear HC26
      by_cases c27 : a0_0 = (-1)
      ·
       rw [if_pos c27] at H
       have c27b0 : (a0_0 == (-1)) = true := beq_iff_eq.mpr c27
       have c27b1 : (a0_0 != (-1)) = false := bne_eq_false_iff_eq.mpr c27
       clear c27
       (first | rw [c27b0] | (simp only [i64_w, i32_w]; rw [c27b0]) | skip)
       have H' := Aside0.mk H
       clear H; have hnb28 := NB142_143.out; have hnc28 := NB143_142.out
       obtain ⟨hcz29_0, hcz29_1, hcz29_2, hcz29_3, hfz29_0, hfz29_1, hfz29_2, hfz29_3⟩ := blkall_4 BK142.out
       go_wp2
       go_meet
       case rel => exact ⟨_, (false), (by first | rfl | (simp; done) | (simp [*]; done)), H', ⟨by have := HJ5.out; have := HJ13.out; first | omega | exact Nat.le_refl _⟩, ⟨blk_up BK142.out⟩, ⟨blk_up BK143.out⟩, ⟨by repeat (first | (with_reducible first | exact HB.out | apply below_alloc | apply pw_below_drewN | apply below_drew1 | refine below_setA ?_ ‹_›) | exact HB.out)⟩⟩
      rw [if_neg c27] at H
      have c27b0 : (a0_0 == (-1)) = false := beq_eq_false_iff_ne.mpr c27
      have c27b1 : (a0_0 != (-1)) = true := bne_iff_ne.mpr c27
      (first | rw [c27b0] | (simp only [i64_w, i32_w]; rw [c27b0]) | skip)
      by_cases c30 : a0_0 = a2
      rotate_left
      ·
       rw [if_neg c30] at H
       have c30b0 : (a0_0 == a2) = false := beq_eq_false_iff_ne.mpr c30
       have c30b1 : (a0_0 != a2) = true := bne_iff_ne.mpr c30
       have H' := Aside0.mk H
       clear H; have hnb33 := NB142_143.out; have hnc33 := NB143_142.out
       obtain ⟨hcz34_0, hcz34_1, hcz34_2, hcz34_3, hfz34_0, hfz34_1, hfz34_2, hfz34_3⟩ := blkall_4 BK142.out
       go_wp2
       go_meet
       case rel => exact ⟨_, (true), (by first | rfl | (simp; done) | (simp [*]; done)), H', ⟨by have := HJ5.out; have := HJ13.out; first | omega | exact Nat.le_refl _⟩, ⟨blk_up BK142.out⟩, ⟨blk_up BK143.out⟩, ⟨by repeat (first | (with_reducible first | exact HB.out | apply below_alloc | apply pw_below_drewN | apply below_drew1 | refine below_setA ?_ ‹_›) | exact HB.out)⟩⟩
      rw [if_pos c30] at H
      have c30b0 : (a0_0 == a2) = true := beq_iff_eq.mpr c30
      have c30b1 : (a0_0 != a2) = false := bne_eq_false_iff_eq.mpr c30
      clear c30
      have H' := Aside0.mk H
      clear H; have hnb31 := NB142_143.out; have hnc31 := NB143_142.out
      obtain ⟨hcz32_0, hcz32_1, hcz32_2, hcz32_3, hfz32_0, hfz32_1, hfz32_2, hfz32_3⟩ := blkall_4 BK142.out
      go_wp2
      go_meet
      case rel => exact ⟨_, ((a0_1 != a3)), (by first | rfl | (simp; done) | (simp [*]; done)), H', ⟨by have := HJ5.out; have := HJ13.out; first | omega | exact Nat.le_refl _⟩, ⟨blk_up BK142.out⟩, ⟨blk_up BK143.out⟩, ⟨by repeat (first | (with_reducible first | exact HB.out | apply below_alloc | apply pw_below_drewN | apply below_drew1 | refine below_setA ?_ ‹_›) | exact HB.out)⟩⟩
     case rest =>
      clear HC26
      (try clear c23)
      obtain ⟨kq, x45_25, rfl, HA, HJ25, BK142, BK143, HB⟩ := hcut
      cases kq with
      | zero => exact absurd HA.out (by simp [stream_Take.j2])
      | succ kj25 =>
       have H := HA.out; clear HA
       simp only [stream_Take.j2] at H
       by_cases c35 : x45_25 = true
       ·
        subst c35
        have H1 : (some (0, 0, (⟨#[]⟩ : ByteArray), false, 0, false, 7)) = some (r1, r2, r3, r4, r5, r6, r7) := by rw [if_pos rfl] at H; exact H
        clear H; have H := H1; clear H1
        simp only [Option.some.injEq, Prod.mk.injEq] at H
        obtain ⟨rfl, rfl, rfl, rfl, rfl, rfl, rfl⟩ := H
        have hnb36 := NB143_142.out; have hnc36 := NB142_143.out
        obtain ⟨hcz37_0, hcz37_1, hcz37_2, hcz37_3, hfz37_0, hfz37_1, hfz37_2, hfz37_3⟩ := blkall_4 BK143.out
        go_wp2
        refine bodyPost_ret (results_list (rs := [.cell 10 32, .tmp 11, .tmp 12, .tmp 13]) rfl (by simp) (.cell gb143 32 #[.int .i64 0, .int .u32 0, .string (⟨#[]⟩ : ByteArray), .bool false] (0, 0) _ rfl (by refine blk_up ?_; refine blk_put (cs := #[.int .i64 0, .int .u32 0, .string (⟨#[]⟩ : ByteArray), .bool false]) ?_ 3 _ rfl; refine blk_up ?_; refine blk_put (cs := #[.int .i64 0, .int .u32 0, .string (⟨#[]⟩ : ByteArray), .bool false]) ?_ 2 _ rfl; refine blk_up ?_; refine blk_put (cs := #[.int .i64 0, .int .u32 0, .string (⟨#[]⟩ : ByteArray), .bool false]) ?_ 1 _ rfl; refine blk_up ?_; refine blk_put (cs := #[.int .i64 0, .int .u32 0, .string (⟨#[]⟩ : ByteArray), .bool false]) ?_ 0 _ rfl; refine blk_up ?_; exact BK143.out) Try.underlying32 rfl (by kernel_rfl) (.tmp (.tmp (.tmp .nil))))) rfl ?_
        exact ⟨by first | rfl | (simp [errW_none, errW_some] <;> rfl) | (simp [*, errW_none, errW_some] <;> rfl), by repeat (first | (with_reducible first | exact HB.out | apply below_alloc | apply pw_below_drewN | apply below_drew1 | refine below_setA ?_ ‹_›) | exact HB.out)⟩
       replace c35 := Bool.eq_false_iff.mpr c35
       subst c35
       have H1 : (if a0_3 = true then (some (a0_0, a0_1, a0_2, a0_3, a0_0, false, 0)) else (if a1 ≤ (a0_2.size : Int) then (stream_Take.j3 kj25 a1 a2 a3 a4 (a0_2.size : Int) (decide ((wrap64 (a1 + (a4.size : Int))) > (a0_2.size : Int))) a2 a3 a0_2 a0_3) else (stream_Take.j3 kj25 a1 a2 a3 a4 (a0_2.size : Int) false a2 a3 a0_2 a0_3))) = some (r1, r2, r3, r4, r5, r6, r7) := by rw [if_neg (show ¬ (false = true) by decide)] at H; exact H
       clear H; have H := H1; clear H1
       by_cases c38 : a0_3 = true
       ·
        subst c38
        have H1 : (some (a0_0, a0_1, a0_2, true, a0_0, false, 0)) = some (r1, r2, r3, r4, r5, r6, r7) := by rw [if_pos rfl] at H; exact H
        clear H; have H := H1; clear H1
        simp only [Option.some.injEq, Prod.mk.injEq] at H
        obtain ⟨rfl, rfl, rfl, rfl, rfl, rfl, rfl⟩ := H
        have hnb39 := NB142_143.out; have hnc39 := NB143_142.out
        obtain ⟨hcz40_0, hcz40_1, hcz40_2, hcz40_3, hfz40_0, hfz40_1, hfz40_2, hfz40_3⟩ := blkall_4 BK142.out
        try go_wp2
        have n0_ := Aside0.mk (blk_drew BK142.out)
        have n1_ := Aside0.mk (blk_drew BK143.out)
        have n2_ := Aside0.mk (below_drew1 HB.out)
        clear BK142; clear BK143; clear HB; have BK142 := n0_; have BK143 := n1_; have HB := n2_; clear n0_ n1_ n2_
        refine start_ (n := 7) (S := fun w' => w'.cell? ⟨gb142, 0, none⟩ = some (.int .i64 a0_0) ∧ w'.cell? ⟨gb142, 1, none⟩ = some (.int .u32 a0_1) ∧ w'.cell? ⟨gb142, 2, none⟩ = some (.string a0_2) ∧ w'.cell? ⟨gb142, 3, none⟩ = some (.bool true)) (ds := []) #[false, false, false, false, false, false, false] (by kernel_rfl) rfl rfl ⟨(blk_cell BK142.out 0).trans rfl, (blk_cell BK142.out 1).trans rfl, (blk_cell BK142.out 2).trans rfl, (blk_cell BK142.out 3).trans rfl⟩ (fun hHeld => ?_)
        generalize wc.drew = w41 at BK142 BK143 HB hHeld ⊢
        refine pure_ (i := 1) (N := some 66) (v := ?_) (a' := ?_) #[false, true, false, false, false, false, false] rfl rfl (by kernel_rfl) (fun _ _ _ h => h) (Or.inl ⟨by rfl, ?_⟩) ?_ ?_
        rotate_left
        ·
         intro w'
         go_simp
         with_reducible rfl
        rotate_left
        ·
         simp only [Act.put, List.setIfInBounds_toArray, List.set_cons_zero, List.set_cons_succ, i64_w, i32_w]
         rfl
        refine take_ (i := 0) (N := some 65) (v := ?_) (a' := ?_) #[true, true, false, false, false, false, false] rfl rfl (by kernel_rfl) (fun _ _ _ h => h) (Or.inl ⟨by rfl, ?_⟩) hHeld ?_ ?_
        rotate_left
        ·
         rintro w' ⟨s0, s1, s2, s3⟩
         go_simp
         with_reducible rfl
        rotate_left
        ·
         simp only [Act.put, List.setIfInBounds_toArray, List.set_cons_zero, List.set_cons_succ, i64_w, i32_w]
         rfl
        refine take_ (i := 2) (N := some 67) (v := ?_) (a' := ?_) #[true, true, true, false, false, false, false] rfl rfl (by kernel_rfl) (fun _ _ _ h => h) (Or.inl ⟨by rfl, ?_⟩) hHeld ?_ ?_
        rotate_left
        ·
         rintro w' ⟨s0, s1, s2, s3⟩
         go_simp
         with_reducible rfl
        rotate_left
        ·
         simp only [Act.put, List.setIfInBounds_toArray, List.set_cons_zero, List.set_cons_succ, i64_w, i32_w]
         rfl
        refine one_ (i := 3) (N := none) #[true, true, true, true, false, false, false] rfl rfl (by kernel_rfl) (by decide) (fun K hK => ?_)
        have hs42 : w41.cell? ⟨gb143, 0, none⟩ = some (.int .i64 0) := (blk_cell BK143.out 0).trans rfl
        have hfs42 := blk_frozen BK143.out 0; have hns42_0 := NB142_143.out; have hms42_0 := NB143_142.out
        have hs43 : w41.cell? ⟨gb143, 1, none⟩ = some (.int .u32 0) := (blk_cell BK143.out 1).trans rfl
        have hfs43 := blk_frozen BK143.out 1; have hns43_0 := NB142_143.out; have hms43_0 := NB143_142.out
        have hs44 : w41.cell? ⟨gb143, 2, none⟩ = some (.string (⟨#[]⟩ : ByteArray)) := (blk_cell BK143.out 2).trans rfl
        have hfs44 := blk_frozen BK143.out 2; have hns44_0 := NB142_143.out; have hms44_0 := NB143_142.out
        have hs45 : w41.cell? ⟨gb143, 3, none⟩ = some (.bool false) := (blk_cell BK143.out 3).trans rfl
        have hfs45 := blk_frozen BK143.out 3; have hns45_0 := NB142_143.out; have hms45_0 := NB143_142.out
        refine skip_ (w1 := ?_) (by rfl) rfl ?_ ?_
        rotate_left
        ·
         go_simp
         rfl
        refine hK.out _ _ ⟨((cell_far (p := ⟨gb143, _, none⟩) NB142_143.out _).trans (((cell_far (p := ⟨gb143, _, none⟩) NB142_143.out _).trans (((cell_far (p := ⟨gb143, _, none⟩) NB142_143.out _).trans (((cell_far (p := ⟨gb143, _, none⟩) NB142_143.out _).trans (hHeld.1)))))))), ((cell_far (p := ⟨gb143, _, none⟩) NB142_143.out _).trans (((cell_far (p := ⟨gb143, _, none⟩) NB142_143.out _).trans (((cell_far (p := ⟨gb143, _, none⟩) NB142_143.out _).trans (((cell_far (p := ⟨gb143, _, none⟩) NB142_143.out _).trans (hHeld.2.1)))))))), ((cell_far (p := ⟨gb143, _, none⟩) NB142_143.out _).trans (((cell_far (p := ⟨gb143, _, none⟩) NB142_143.out _).trans (((cell_far (p := ⟨gb143, _, none⟩) NB142_143.out _).trans (((cell_far (p := ⟨gb143, _, none⟩) NB142_143.out _).trans (hHeld.2.2.1)))))))), ((cell_far (p := ⟨gb143, _, none⟩) NB142_143.out _).trans (((cell_far (p := ⟨gb143, _, none⟩) NB142_143.out _).trans (((cell_far (p := ⟨gb143, _, none⟩) NB142_143.out _).trans (((cell_far (p := ⟨gb143, _, none⟩) NB142_143.out _).trans (hHeld.2.2.2))))))))⟩ (fun hHeld => ?_)
        clear hK K
        refine pure_ (i := 4) (N := some 11) (v := ?_) (a' := ?_) #[true, true, true, true, true, false, false] rfl rfl (by kernel_rfl) (fun _ _ _ h => h) (Or.inl ⟨by rfl, ?_⟩) ?_ ?_
        rotate_left
        ·
         intro w'
         go_simp
         with_reducible rfl
        rotate_left
        ·
         simp only [Act.put, List.setIfInBounds_toArray, List.set_cons_zero, List.set_cons_succ, i64_w, i32_w]
         rfl
        refine pure_ (i := 5) (N := some 12) (v := ?_) (a' := ?_) #[true, true, true, true, true, true, false] rfl rfl (by kernel_rfl) (fun _ _ _ h => h) (Or.inl ⟨by rfl, ?_⟩) ?_ ?_
        rotate_left
        ·
         intro w'
         go_simp
         with_reducible rfl
        rotate_left
        ·
         simp only [Act.put, List.setIfInBounds_toArray, List.set_cons_zero, List.set_cons_succ, i64_w, i32_w]
         rfl
        refine pure_ (i := 6) (N := some 13) (v := ?_) (a' := ?_) #[true, true, true, true, true, true, true] rfl rfl (by kernel_rfl) (fun _ _ _ h => h) (Or.inl ⟨by rfl, ?_⟩) ?_ ?_
        rotate_left
        ·
         intro w'
         go_simp
         with_reducible rfl
        rotate_left
        ·
         simp only [Act.put, List.setIfInBounds_toArray, List.set_cons_zero, List.set_cons_succ, i64_w, i32_w]
         rfl
        refine done_ (by kernel_rfl) ?_
        try go_wp2
        refine bodyPost_ret (results_list (rs := [.cell 10 32, .tmp 11, .tmp 12, .tmp 13]) rfl (by simp) (.cell gb143 32 #[.int .i64 a0_0, .int .u32 a0_1, .string a0_2, .bool true] (0, 0) _ rfl (by refine blk_up ?_; refine blk_put (cs := #[.int .i64 a0_0, .int .u32 a0_1, .string a0_2, .bool false]) ?_ 3 _ rfl; refine blk_up ?_; refine blk_put (cs := #[.int .i64 a0_0, .int .u32 a0_1, .string (⟨#[]⟩ : ByteArray), .bool false]) ?_ 2 _ rfl; refine blk_up ?_; refine blk_put (cs := #[.int .i64 a0_0, .int .u32 0, .string (⟨#[]⟩ : ByteArray), .bool false]) ?_ 1 _ rfl; refine blk_up ?_; refine blk_put (cs := #[.int .i64 0, .int .u32 0, .string (⟨#[]⟩ : ByteArray), .bool false]) ?_ 0 _ rfl; refine blk_up ?_; exact BK143.out) Try.underlying32 rfl (by kernel_rfl) (.tmp (.tmp (.tmp .nil))))) rfl ?_
        exact ⟨by first | rfl | (simp [errW_none, errW_some] <;> rfl) | (simp [*, errW_none, errW_some] <;> rfl), by repeat (first | (with_reducible first | exact HB.out | apply below_alloc | apply pw_below_drewN | apply below_drew1 | refine below_setA ?_ ‹_›) | exact HB.out)⟩
       replace c38 := Bool.eq_false_iff.mpr c38
       subst c38
       have H1 : (if a1 ≤ (a0_2.size : Int) then (stream_Take.j3 kj25 a1 a2 a3 a4 (a0_2.size : Int) (decide ((wrap64 (a1 + (a4.size : Int))) > (a0_2.size : Int))) a2 a3 a0_2 false) else (stream_Take.j3 kj25 a1 a2 a3 a4 (a0_2.size : Int) false a2 a3 a0_2 false)) = some (r1, r2, r3, r4, r5, r6, r7) := by rw [if_neg (show ¬ (false = true) by decide)] at H; exact H
       clear H; have H := H1; clear H1; have HC46 := Aside0.mk H; clear H; have hnb47 := NB142_143.out; have hnc47 := NB143_142.out
       obtain ⟨hcz48_0, hcz48_1, hcz48_2, hcz48_3, hfz48_0, hfz48_1, hfz48_2, hfz48_3⟩ := blkall_4 BK142.out
       go_upto_region 10 with (fail)
       go_cut [85] (fun v85 wc => ∃ (kq : Nat) (x85_45 : Bool), v85 = .bool x85_45 ∧ Aside0 (stream_Take.j3 kq a1 a2 a3 a4 (a0_2.size : Int) x85_45 a2 a3 a0_2 false = some (r1, r2, r3, r4, r5, r6, r7)) ∧ Aside0 (kq ≤ kj25) ∧ Aside0 (wc.heap[gb142]? = some (.cells #[.int .i64 a2, .int .u32 a3, .string a0_2, .bool false] 32 (0, 0))) ∧ Aside0 (wc.heap[gb143]? = some (.cells #[.int .i64 0, .int .u32 0, .string (⟨#[]⟩ : ByteArray), .bool false] 32 (0, 0))) ∧ Aside0 (Below w.heap.size w wc))
       case first =>
        have H := HC46.out; clear HC46
        by_cases c49 : a1 ≤ (a0_2.size : Int)
        rotate_left
        ·
         rw [if_neg c49] at H
         have c49b0 : decide (a1 ≤ (a0_2.size : Int)) = false := decide_eq_false c49
         clear c49
         (first | rw [c49b0] | (simp only [i64_w, i32_w]; rw [c49b0]) | skip)
         have H' := Aside0.mk H
         clear H
         go_wp2
         go_meet
         case rel => exact ⟨_, (false), (by first | rfl | (simp; done) | (simp [*]; done)), H', ⟨by have := HJ5.out; have := HJ13.out; have := HJ25.out; first | omega | exact Nat.le_refl _⟩, ⟨by refine blk_up ?_; refine blk_put (cs := #[.int .i64 a2, .int .u32 a0_1, .string a0_2, .bool false]) ?_ 1 _ rfl; refine blk_up ?_; refine blk_put (cs := #[.int .i64 a0_0, .int .u32 a0_1, .string a0_2, .bool false]) ?_ 0 _ rfl; refine blk_up ?_; exact BK142.out⟩, ⟨by (with_reducible repeat (first | refine blk_drewN ?_ _ | refine blk_drew ?_ | refine blk_alloc ?_ _ | refine blk_far ?_ NB143_142.out _)); exact BK143.out⟩, ⟨by repeat (first | (with_reducible first | exact HB.out | apply below_alloc | apply pw_below_drewN | apply below_drew1 | refine below_setA ?_ ‹_›) | exact HB.out)⟩⟩
        rw [if_pos c49] at H
        have c49b0 : decide (a1 ≤ (a0_2.size : Int)) = true := decide_eq_true c49
        clear c49
        (first | rw [c49b0] | (simp only [i64_w, i32_w]; rw [c49b0]) | skip)
        have H' := Aside0.mk H
        clear H
        go_wp2
        go_meet
        case rel => exact ⟨_, (decide ((wrap64 (a1 + (a4.size : Int))) > (a0_2.size : Int))), (by first | rfl | (simp; done) | (simp [*]; done)), H', ⟨by have := HJ5.out; have := HJ13.out; have := HJ25.out; first | omega | exact Nat.le_refl _⟩, ⟨by refine blk_up ?_; refine blk_put (cs := #[.int .i64 a2, .int .u32 a0_1, .string a0_2, .bool false]) ?_ 1 _ rfl; refine blk_up ?_; refine blk_put (cs := #[.int .i64 a0_0, .int .u32 a0_1, .string a0_2, .bool false]) ?_ 0 _ rfl; refine blk_up ?_; exact BK142.out⟩, ⟨by (with_reducible repeat (first | refine blk_drewN ?_ _ | refine blk_drew ?_ | refine blk_alloc ?_ _ | refine blk_far ?_ NB143_142.out _)); exact BK143.out⟩, ⟨by repeat (first | (with_reducible first | exact HB.out | apply below_alloc | apply pw_below_drewN | apply below_drew1 | refine below_setA ?_ ‹_›) | exact HB.out)⟩⟩
       case rest =>
        clear HC46
        (try clear c35); (try clear c38); (try clear hcz48_0); (try clear hcz48_1); (try clear hcz48_2); (try clear hcz48_3); (try clear hfz48_0); (try clear hfz48_1); (try clear hfz48_2); (try clear hfz48_3)
        obtain ⟨kq, x85_45, rfl, HA, HJ45, BK142, BK143, HB⟩ := hcut
        cases kq with
        | zero => exact absurd HA.out (by simp [stream_Take.j3])
        | succ kj45 =>
         have H := HA.out; clear HA
         simp only [stream_Take.j3] at H
         have HC50 := Aside0.mk H; clear H
         go_upto_if 85 with (fail)
         go_cut [] (fun wc => ∃ (kq : Nat) (x143002_49 : ByteArray), Aside0 (stream_Take.j4 kq a2 a3 (a0_2.size : Int) a2 a3 x143002_49 false = some (r1, r2, r3, r4, r5, r6, r7)) ∧ Aside0 (kq ≤ kj45) ∧ Aside0 (wc.heap[gb142]? = some (.cells #[.int .i64 a2, .int .u32 a3, .string x143002_49, .bool false] 32 (0, 0))) ∧ Aside0 (wc.heap[gb143]? = some (.cells #[.int .i64 0, .int .u32 0, .string (⟨#[]⟩ : ByteArray), .bool false] 32 (0, 0))) ∧ Aside0 (Below w.heap.size w wc))
         case first =>
          have H := HC50.out; clear HC50
          by_cases c51 : x85_45 = true
          rotate_left
          ·
           replace c51 := Bool.eq_false_iff.mpr c51
           subst c51
           have H1 : (stream_Take.j4 kj45 a2 a3 (a0_2.size : Int) a2 a3 a0_2 false) = some (r1, r2, r3, r4, r5, r6, r7) := by rw [if_neg (show ¬ (false = true) by decide)] at H; exact H
           clear H; have H := H1; clear H1
           have H' := Aside0.mk H
           clear H
           go_wp2
           go_meet
           case rel => exact ⟨_, (a0_2), H', ⟨by have := HJ5.out; have := HJ13.out; have := HJ25.out; have := HJ45.out; first | omega | exact Nat.le_refl _⟩, ⟨blk_up BK142.out⟩, ⟨blk_up BK143.out⟩, ⟨by repeat (first | (with_reducible first | exact HB.out | apply below_alloc | apply pw_below_drewN | apply below_drew1 | refine below_setA ?_ ‹_›) | exact HB.out)⟩⟩
          subst c51
          have H1 : (if 0 ≤ (wrap64 ((a0_2.size : Int) - a1)) then (if (wrap64 ((a0_2.size : Int) - a1)) ≤ (a4.size : Int) then (if a0_2.size + (a4.extract ((wrap64 ((a0_2.size : Int) - a1)) : Int).toNat a4.size).size ≤ 9223372036854775807 then (stream_Take.j4 kj45 a2 a3 (a0_2.size : Int) a2 a3 (a0_2 ++ (a4.extract ((wrap64 ((a0_2.size : Int) - a1)) : Int).toNat a4.size)) false) else (none)) else (none)) else (none)) = some (r1, r2, r3, r4, r5, r6, r7) := by rw [if_pos rfl] at H; exact H
          clear H; have H := H1; clear H1
          obtain ⟨ji52, hji52⟩ : ∃ j_ : Int, (wrap64 ((a0_2.size : Int) - a1)) = j_ := ⟨_, rfl⟩
          replace H : (if 0 ≤ (ji52) then (if (ji52) ≤ (a4.size : Int) then (if a0_2.size + (a4.extract ((ji52) : Int).toNat a4.size).size ≤ 9223372036854775807 then (stream_Take.j4 kj45 a2 a3 (a0_2.size : Int) a2 a3 (a0_2 ++ (a4.extract ((ji52) : Int).toNat a4.size)) false) else (none)) else (none)) else (none)) = some (r1, r2, r3, r4, r5, r6, r7) := by first | (rw [hji52] at H; exact H) | (simp only [hji52] at H ⊢; exact H)
          have hji52w : (IntKind.i64.wrap ((a0_2.size : Int) - a1)) = ji52 := (i64_w _).trans hji52
          by_cases c53 : 0 ≤ (ji52)
          rotate_left
          ·
           rw [if_neg c53] at H
           exact absurd H (by simp)
          rw [if_pos c53] at H
          have c53b0 := eq_true c53
          have c53b1 : decide (0 ≤ (ji52)) = true := decide_eq_true c53
          clear c53
          by_cases c54 : (ji52) ≤ (a4.size : Int)
          rotate_left
          ·
           rw [if_neg c54] at H
           exact absurd H (by simp)
          rw [if_pos c54] at H
          have c54b0 := eq_true c54
          have c54b1 : decide ((ji52) ≤ (a4.size : Int)) = true := decide_eq_true c54
          clear c54
          by_cases c55 : a0_2.size + (a4.extract ((ji52) : Int).toNat a4.size).size ≤ 9223372036854775807
          rotate_left
          ·
           rw [if_neg c55] at H
           exact absurd H (by simp)
          rw [if_pos c55] at H
          have c55b0 := eq_true c55
          have c55b1 : decide (a0_2.size + (a4.extract ((ji52) : Int).toNat a4.size).size ≤ 9223372036854775807) = true := decide_eq_true c55
          try have c55b2 : (9223372036854775807 < a0_2.size + (a4.extract ((ji52) : Int).toNat a4.size).size) = False := eq_false (Nat.not_lt.2 c55)
          try (have c55b3 := c55b2; simp only [ByteArray.size_extract, Nat.min_self] at c55b3)
          have H' := Aside0.mk H
          clear H
          try go_wp2
          have n0_ := Aside0.mk (blk_drew BK142.out)
          have n1_ := Aside0.mk (blk_drew BK143.out)
          have n2_ := Aside0.mk (below_drew1 HB.out)
          clear BK142; clear BK143; clear HB; have BK142 := n0_; have BK143 := n1_; have HB := n2_; clear n0_ n1_ n2_
          refine start_ (n := 10) (S := fun w' => w'.cell? ⟨gb142, 0, none⟩ = some (.int .i64 a2) ∧ w'.cell? ⟨gb142, 1, none⟩ = some (.int .u32 a3) ∧ w'.cell? ⟨gb142, 2, none⟩ = some (.string a0_2) ∧ w'.cell? ⟨gb142, 3, none⟩ = some (.bool false)) (ds := [9]) #[false, false, false, false, false, false, false, false, false, false] (by kernel_rfl) rfl rfl ⟨(blk_cell BK142.out 0).trans rfl, (blk_cell BK142.out 1).trans rfl, (blk_cell BK142.out 2).trans rfl, (blk_cell BK142.out 3).trans rfl⟩ (fun hHeld => ?_); refine with_tabW stream_Take.tab11 stream_Take.bits11 (fun HT_ HW_ => ?_)
          generalize wc.drew = w56 at BK142 BK143 HB hHeld ⊢
          refine pure_ (i := 0) (N := some 86) (v := ?_) (a' := ?_) #[true, false, false, false, false, false, false, false, false, false] rfl rfl (any_of HT_.out (by kernel_rfl)) (fun _ _ _ h => h) (Or.inl ⟨by rfl, ?_⟩) ?_ ?_
          rotate_left
          ·
           intro w'
           go_simp
           with_reducible rfl
          rotate_left
          ·
           simp only [Act.put, List.setIfInBounds_toArray, List.set_cons_zero, List.set_cons_succ, i64_w, i32_w]
           rfl
          refine pure_ (i := 2) (N := some 88) (v := ?_) (a' := ?_) #[true, false, true, false, false, false, false, false, false, false] rfl rfl (any_of HT_.out (by kernel_rfl)) (fun _ _ _ h => h) (Or.inl ⟨by rfl, ?_⟩) ?_ ?_
          rotate_left
          ·
           intro w'
           go_simp
           with_reducible rfl
          rotate_left
          ·
           simp only [Act.put, List.setIfInBounds_toArray, List.set_cons_zero, List.set_cons_succ, i64_w, i32_w]
           rfl
          refine pure_ (i := 3) (N := some 89) (v := ?_) (a' := ?_) #[true, false, true, true, false, false, false, false, false, false] rfl rfl (any_of HT_.out (by kernel_rfl)) (fun _ _ _ h => h) (Or.inl ⟨by rfl, ?_⟩) ?_ ?_
          rotate_left
          ·
           intro w'
           go_simp
           with_reducible rfl
          rotate_left
          ·
           simp only [Act.put, List.setIfInBounds_toArray, List.set_cons_zero, List.set_cons_succ, i64_w, i32_w]
           rfl
          refine pure_ (i := 4) (N := some 90) (v := ?_) (a' := ?_) #[true, false, true, true, true, false, false, false, false, false] rfl rfl (any_of HT_.out (by kernel_rfl)) (fun _ _ _ h => h) (Or.inl ⟨by rfl, ?_⟩) ?_ ?_
          rotate_left
          ·
           intro w'
           go_simp
           with_reducible rfl
          rotate_left
          ·
           simp only [Act.put, List.setIfInBounds_toArray, List.set_cons_zero, List.set_cons_succ, i64_w, i32_w]
           rfl
          refine pure_ (i := 5) (N := some 91) (v := ?_) (a' := ?_) #[true, false, true, true, true, true, false, false, false, false] rfl rfl (any_of HT_.out (by kernel_rfl)) (fun _ _ _ h => h) (Or.inl ⟨by rfl, ?_⟩) ?_ ?_
          rotate_left
          ·
           intro w'
           go_simp
           with_reducible rfl
          rotate_left
          ·
           simp only [Act.put, List.setIfInBounds_toArray, List.set_cons_zero, List.set_cons_succ, i64_w, i32_w]
           rfl
          refine pure_ (i := 6) (N := some 92) (v := ?_) (a' := ?_) #[true, false, true, true, true, true, true, false, false, false] rfl rfl (any_of HT_.out (by kernel_rfl)) (fun _ _ _ h => h) (Or.inl ⟨by rfl, ?_⟩) ?_ ?_
          rotate_left
          ·
           intro w'
           go_simp
           with_reducible rfl
          rotate_left
          ·
           simp only [Act.put, List.setIfInBounds_toArray, List.set_cons_zero, List.set_cons_succ, i64_w, i32_w]
           rfl
          refine take_ (i := 1) (N := some 87) (v := ?_) (a' := ?_) #[true, true, true, true, true, true, true, false, false, false] rfl rfl (take_ofW HT_.out HW_.out (by kernel_rfl)) (fun _ _ _ h => h) (Or.inl ⟨by rfl, ?_⟩) hHeld ?_ ?_
          rotate_left
          ·
           rintro w' ⟨s0, s1, s2, s3⟩
           go_simp
           with_reducible rfl
          rotate_left
          ·
           simp only [Act.put, List.setIfInBounds_toArray, List.set_cons_zero, List.set_cons_succ, i64_w, i32_w]
           rfl
          refine pure_ (i := 7) (N := some 93) (v := ?_) (a' := ?_) #[true, true, true, true, true, true, true, true, false, false] rfl rfl (any_of HT_.out (by kernel_rfl)) (fun _ _ _ h => h) (Or.inl ⟨by rfl, ?_⟩) ?_ ?_
          rotate_left
          ·
           intro w'
           go_simp
           with_reducible rfl
          rotate_left
          ·
           simp only [Act.put, List.setIfInBounds_toArray, List.set_cons_zero, List.set_cons_succ, i64_w, i32_w]
           rfl
          refine pure_ (i := 8) (N := some 94) (v := ?_) (a' := ?_) #[true, true, true, true, true, true, true, true, true, false] rfl rfl (any_of HT_.out (by kernel_rfl)) (fun _ _ _ h => h) (Or.inl ⟨by rfl, ?_⟩) ?_ ?_
          rotate_left
          ·
           intro w'
           go_simp
           with_reducible rfl
          rotate_left
          ·
           simp only [Act.put, List.setIfInBounds_toArray, List.set_cons_zero, List.set_cons_succ, i64_w, i32_w]
           rfl
          refine last_ (i := 9) (N := none) #[true, true, true, true, true, true, true, true, true, true] rfl rfl (one_of HT_.out (by kernel_rfl)) (by decide) (fun K hK => ?_)
          have hs57 : w56.cell? ⟨gb142, 2, none⟩ = some (.string a0_2) := (blk_cell BK142.out 2).trans rfl
          have hfs57 := blk_frozen BK142.out 2; have hns57_1 := NB143_142.out; have hms57_1 := NB142_143.out
          refine skip_ (w1 := ?_) (by rfl) rfl ?_ ?_
          rotate_left
          ·
           go_simp
           rfl
          refine hK.out _ _ ?_
          clear hK K
          refine done_ (done_of HT_.out (by kernel_rfl)) ?_
          try go_wp2
          go_meet
          case rel => exact ⟨_, (a0_2 ++ (a4.extract ((ji52) : Int).toNat a4.size)), H', ⟨by have := HJ5.out; have := HJ13.out; have := HJ25.out; have := HJ45.out; first | omega | exact Nat.le_refl _⟩, ⟨by refine blk_up ?_; refine blk_put (cs := #[.int .i64 a2, .int .u32 a3, .string a0_2, .bool false]) ?_ 2 _ rfl; refine blk_up ?_; exact BK142.out⟩, ⟨by refine blk_up ?_; refine blk_far ?_ NB143_142.out _; refine blk_up ?_; exact BK143.out⟩, ⟨by repeat (first | (with_reducible first | exact HB.out | apply below_alloc | apply pw_below_drewN | apply below_drew1 | refine below_setA ?_ ‹_›) | exact HB.out)⟩⟩
         case rest =>
          clear HC50
          obtain ⟨kq, x143002_49, HA, HJ49, BK142, BK143, HB⟩ := hcut
          cases kq with
          | zero => exact absurd HA.out (by simp [stream_Take.j4])
          | succ kj49 =>
           have H := HA.out; clear HA
           simp only [stream_Take.j4] at H
           by_cases c58 : (x143002_49.size : Int) = a2
           rotate_left
           ·
            rw [if_neg c58] at H
            have c58b0 : ((x143002_49.size : Int) == a2) = false := beq_eq_false_iff_ne.mpr c58
            have c58b1 : ((x143002_49.size : Int) != a2) = true := bne_iff_ne.mpr c58
            simp only [Option.some.injEq, Prod.mk.injEq] at H
            obtain ⟨rfl, rfl, rfl, rfl, rfl, rfl, rfl⟩ := H
            have hnb74 := NB142_143.out; have hnc74 := NB143_142.out
            obtain ⟨hcz75_0, hcz75_1, hcz75_2, hcz75_3, hfz75_0, hfz75_1, hfz75_2, hfz75_3⟩ := blkall_4 BK142.out
            try go_wp2
            have n0_ := Aside0.mk (blk_drew BK142.out)
            have n1_ := Aside0.mk (blk_drew BK143.out)
            have n2_ := Aside0.mk (below_drew1 HB.out)
            clear BK142; clear BK143; clear HB; have BK142 := n0_; have BK143 := n1_; have HB := n2_; clear n0_ n1_ n2_
            refine start_ (n := 13) (S := fun w' => w'.cell? ⟨gb142, 0, none⟩ = some (.int .i64 a2) ∧ w'.cell? ⟨gb142, 1, none⟩ = some (.int .u32 a3) ∧ w'.cell? ⟨gb142, 2, none⟩ = some (.string x143002_49) ∧ w'.cell? ⟨gb142, 3, none⟩ = some (.bool false)) (ds := []) #[false, false, false, false, false, false, false, false, false, false, false, false, false] (by kernel_rfl) rfl rfl ⟨(blk_cell BK142.out 0).trans rfl, (blk_cell BK142.out 1).trans rfl, (blk_cell BK142.out 2).trans rfl, (blk_cell BK142.out 3).trans rfl⟩ (fun hHeld => ?_); refine with_tabW stream_Take.tab16 stream_Take.bits16 (fun HT_ HW_ => ?_)
            generalize wc.drew = w76 at BK142 BK143 HB hHeld ⊢
            refine pure_ (i := 1) (N := some 108) (v := ?_) (a' := ?_) #[false, true, false, false, false, false, false, false, false, false, false, false, false] rfl rfl (any_of HT_.out (by kernel_rfl)) (fun _ _ _ h => h) (Or.inl ⟨by rfl, ?_⟩) ?_ ?_
            rotate_left
            ·
             intro w'
             go_simp
             with_reducible rfl
            rotate_left
            ·
             simp only [Act.put, List.setIfInBounds_toArray, List.set_cons_zero, List.set_cons_succ, i64_w, i32_w]
             rfl
            refine pure_ (i := 4) (N := some 111) (v := ?_) (a' := ?_) #[false, true, false, false, true, false, false, false, false, false, false, false, false] rfl rfl (any_of HT_.out (by kernel_rfl)) (fun _ _ _ h => h) (Or.inl ⟨by rfl, ?_⟩) ?_ ?_
            rotate_left
            ·
             intro w'
             go_simp
             with_reducible rfl
            rotate_left
            ·
             simp only [Act.put, List.setIfInBounds_toArray, List.set_cons_zero, List.set_cons_succ, i64_w, i32_w]
             rfl
            refine pure_ (i := 7) (N := some 114) (v := ?_) (a' := ?_) #[false, true, false, false, true, false, false, true, false, false, false, false, false] rfl rfl (any_of HT_.out (by kernel_rfl)) (fun _ _ _ h => h) (Or.inl ⟨by rfl, ?_⟩) ?_ ?_
            rotate_left
            ·
             intro w'
             go_simp
             with_reducible rfl
            rotate_left
            ·
             simp only [Act.put, List.setIfInBounds_toArray, List.set_cons_zero, List.set_cons_succ, i64_w, i32_w]
             rfl
            refine take_ (i := 0) (N := some 107) (v := ?_) (a' := ?_) #[true, true, false, false, true, false, false, true, false, false, false, false, false] rfl rfl (take_ofW HT_.out HW_.out (by kernel_rfl)) (fun _ _ _ h => h) (Or.inl ⟨by rfl, ?_⟩) hHeld ?_ ?_
            rotate_left
            ·
             rintro w' ⟨s0, s1, s2, s3⟩
             go_simp
             with_reducible rfl
            rotate_left
            ·
             simp only [Act.put, List.setIfInBounds_toArray, List.set_cons_zero, List.set_cons_succ, i64_w, i32_w]
             rfl
            refine take_ (i := 2) (N := some 109) (v := ?_) (a' := ?_) #[true, true, true, false, true, false, false, true, false, false, false, false, false] rfl rfl (take_ofW HT_.out HW_.out (by kernel_rfl)) (fun _ _ _ h => h) (Or.inl ⟨by rfl, ?_⟩) hHeld ?_ ?_
            rotate_left
            ·
             rintro w' ⟨s0, s1, s2, s3⟩
             go_simp
             with_reducible rfl
            rotate_left
            ·
             simp only [Act.put, List.setIfInBounds_toArray, List.set_cons_zero, List.set_cons_succ, i64_w, i32_w]
             rfl
            refine pure_ (i := 3) (N := some 110) (v := ?_) (a' := ?_) #[true, true, true, true, true, false, false, true, false, false, false, false, false] rfl rfl (any_of HT_.out (by kernel_rfl)) (fun _ _ _ h => h) (Or.inl ⟨by rfl, ?_⟩) ?_ ?_
            rotate_left
            ·
             intro w'
             go_simp
             with_reducible rfl
            rotate_left
            ·
             simp only [Act.put, List.setIfInBounds_toArray, List.set_cons_zero, List.set_cons_succ, i64_w, i32_w]
             rfl
            refine take_ (i := 5) (N := some 112) (v := ?_) (a' := ?_) #[true, true, true, true, true, true, false, true, false, false, false, false, false] rfl rfl (take_ofW HT_.out HW_.out (by kernel_rfl)) (fun _ _ _ h => h) (Or.inl ⟨by rfl, ?_⟩) hHeld ?_ ?_
            rotate_left
            ·
             rintro w' ⟨s0, s1, s2, s3⟩
             go_simp
             with_reducible rfl
            rotate_left
            ·
             simp only [Act.put, List.setIfInBounds_toArray, List.set_cons_zero, List.set_cons_succ, i64_w, i32_w]
             rfl
            refine pure_ (i := 6) (N := some 113) (v := ?_) (a' := ?_) #[true, true, true, true, true, true, true, true, false, false, false, false, false] rfl rfl (any_of HT_.out (by kernel_rfl)) (fun _ _ _ h => h) (Or.inl ⟨by rfl, ?_⟩) ?_ ?_
            rotate_left
            ·
             intro w'
             go_simp
             with_reducible rfl
            rotate_left
            ·
             simp only [Act.put, List.setIfInBounds_toArray, List.set_cons_zero, List.set_cons_succ, i64_w, i32_w]
             rfl
            refine pure_ (i := 8) (N := some 115) (v := ?_) (a' := ?_) #[true, true, true, true, true, true, true, true, true, false, false, false, false] rfl rfl (any_of HT_.out (by kernel_rfl)) (fun _ _ _ h => h) (Or.inl ⟨by rfl, ?_⟩) ?_ ?_
            rotate_left
            ·
             intro w'
             go_simp
             with_reducible rfl
            rotate_left
            ·
             simp only [Act.put, List.setIfInBounds_toArray, List.set_cons_zero, List.set_cons_succ, i64_w, i32_w]
             rfl
            refine one_ (i := 9) (N := none) #[true, true, true, true, true, true, true, true, true, true, false, false, false] rfl rfl (one_of HT_.out (by kernel_rfl)) (by decide) (fun K hK => ?_)
            have hs77 : w76.cell? ⟨gb143, 0, none⟩ = some (.int .i64 0) := (blk_cell BK143.out 0).trans rfl
            have hfs77 := blk_frozen BK143.out 0; have hns77_0 := NB142_143.out; have hms77_0 := NB143_142.out
            have hs78 : w76.cell? ⟨gb143, 1, none⟩ = some (.int .u32 0) := (blk_cell BK143.out 1).trans rfl
            have hfs78 := blk_frozen BK143.out 1; have hns78_0 := NB142_143.out; have hms78_0 := NB143_142.out
            have hs79 : w76.cell? ⟨gb143, 2, none⟩ = some (.string (⟨#[]⟩ : ByteArray)) := (blk_cell BK143.out 2).trans rfl
            have hfs79 := blk_frozen BK143.out 2; have hns79_0 := NB142_143.out; have hms79_0 := NB143_142.out
            have hs80 : w76.cell? ⟨gb143, 3, none⟩ = some (.bool false) := (blk_cell BK143.out 3).trans rfl
            have hfs80 := blk_frozen BK143.out 3; have hns80_0 := NB142_143.out; have hms80_0 := NB143_142.out
            refine skip_ (w1 := ?_) (by rfl) rfl ?_ ?_
            rotate_left
            ·
             go_simp
             rfl
            refine hK.out _ _ ⟨((cell_far (p := ⟨gb143, _, none⟩) NB142_143.out _).trans (((cell_far (p := ⟨gb143, _, none⟩) NB142_143.out _).trans (((cell_far (p := ⟨gb143, _, none⟩) NB142_143.out _).trans (((cell_far (p := ⟨gb143, _, none⟩) NB142_143.out _).trans (hHeld.1)))))))), ((cell_far (p := ⟨gb143, _, none⟩) NB142_143.out _).trans (((cell_far (p := ⟨gb143, _, none⟩) NB142_143.out _).trans (((cell_far (p := ⟨gb143, _, none⟩) NB142_143.out _).trans (((cell_far (p := ⟨gb143, _, none⟩) NB142_143.out _).trans (hHeld.2.1)))))))), ((cell_far (p := ⟨gb143, _, none⟩) NB142_143.out _).trans (((cell_far (p := ⟨gb143, _, none⟩) NB142_143.out _).trans (((cell_far (p := ⟨gb143, _, none⟩) NB142_143.out _).trans (((cell_far (p := ⟨gb143, _, none⟩) NB142_143.out _).trans (hHeld.2.2.1)))))))), ((cell_far (p := ⟨gb143, _, none⟩) NB142_143.out _).trans (((cell_far (p := ⟨gb143, _, none⟩) NB142_143.out _).trans (((cell_far (p := ⟨gb143, _, none⟩) NB142_143.out _).trans (((cell_far (p := ⟨gb143, _, none⟩) NB142_143.out _).trans (hHeld.2.2.2))))))))⟩ (fun hHeld => ?_)
            clear hK K
            refine pure_ (i := 10) (N := some 11) (v := ?_) (a' := ?_) #[true, true, true, true, true, true, true, true, true, true, true, false, false] rfl rfl (any_of HT_.out (by kernel_rfl)) (fun _ _ _ h => h) (Or.inl ⟨by rfl, ?_⟩) ?_ ?_
            rotate_left
            ·
             intro w'
             go_simp
             with_reducible rfl
            rotate_left
            ·
             simp only [Act.put, List.setIfInBounds_toArray, List.set_cons_zero, List.set_cons_succ, i64_w, i32_w]
             rfl
            refine pure_ (i := 11) (N := some 12) (v := ?_) (a' := ?_) #[true, true, true, true, true, true, true, true, true, true, true, true, false] rfl rfl (any_of HT_.out (by kernel_rfl)) (fun _ _ _ h => h) (Or.inl ⟨by rfl, ?_⟩) ?_ ?_
            rotate_left
            ·
             intro w'
             go_simp
             with_reducible rfl
            rotate_left
            ·
             simp only [Act.put, List.setIfInBounds_toArray, List.set_cons_zero, List.set_cons_succ, i64_w, i32_w]
             rfl
            refine pure_ (i := 12) (N := some 13) (v := ?_) (a' := ?_) #[true, true, true, true, true, true, true, true, true, true, true, true, true] rfl rfl (any_of HT_.out (by kernel_rfl)) (fun _ _ _ h => h) (Or.inl ⟨by rfl, ?_⟩) ?_ ?_
            rotate_left
            ·
             intro w'
             go_simp
             with_reducible rfl
            rotate_left
            ·
             simp only [Act.put, List.setIfInBounds_toArray, List.set_cons_zero, List.set_cons_succ, i64_w, i32_w]
             rfl
            refine done_ (done_of HT_.out (by kernel_rfl)) ?_
            try go_wp2
            refine bodyPost_ret (results_list (rs := [.cell 10 32, .tmp 11, .tmp 12, .tmp 13]) rfl (by simp) (.cell gb143 32 #[.int .i64 a2, .int .u32 a3, .string x143002_49, .bool false] (0, 0) _ rfl (by refine blk_up ?_; refine blk_put (cs := #[.int .i64 a2, .int .u32 a3, .string x143002_49, .bool false]) ?_ 3 _ rfl; refine blk_up ?_; refine blk_put (cs := #[.int .i64 a2, .int .u32 a3, .string (⟨#[]⟩ : ByteArray), .bool false]) ?_ 2 _ rfl; refine blk_up ?_; refine blk_put (cs := #[.int .i64 a2, .int .u32 0, .string (⟨#[]⟩ : ByteArray), .bool false]) ?_ 1 _ rfl; refine blk_up ?_; refine blk_put (cs := #[.int .i64 0, .int .u32 0, .string (⟨#[]⟩ : ByteArray), .bool false]) ?_ 0 _ rfl; refine blk_up ?_; exact BK143.out) Try.underlying32 rfl (by kernel_rfl) (.tmp (.tmp (.tmp .nil))))) rfl ?_
            exact ⟨by first | rfl | (simp [errW_none, errW_some] <;> rfl) | (simp [*, errW_none, errW_some] <;> rfl), by repeat (first | (with_reducible first | exact HB.out | apply below_alloc | apply pw_below_drewN | apply below_drew1 | refine below_setA ?_ ‹_›) | exact HB.out)⟩
           rw [if_pos c58] at H
           have c58b0 : ((x143002_49.size : Int) == a2) = true := beq_iff_eq.mpr c58
           have c58b1 : ((x143002_49.size : Int) != a2) = false := bne_eq_false_iff_eq.mpr c58
           clear c58
           replace H := Option.bind_eq_some_iff.mp H
           obtain ⟨t147, A590, H⟩ := H
           replace H : (if t147 = a3 then (some (a2, a3, x143002_49, true, (x143002_49.size : Int), decide ((x143002_49.size : Int) > (a0_2.size : Int)), 0)) else ((stream_New.f).bind fun bt148 => (some (bt148.1, bt148.2.1, bt148.2.2.1, bt148.2.2.2, 0, false, 8)))) = some (r1, r2, r3, r4, r5, r6, r7) := H
           have A59 := Aside0.mk A590; clear A590
           by_cases c60 : t147 = a3
           rotate_left
           ·
            rw [if_neg c60] at H
            have c60b0 : (t147 == a3) = false := beq_eq_false_iff_ne.mpr c60
            have c60b1 : (t147 != a3) = true := bne_iff_ne.mpr c60
            replace H := Option.bind_eq_some_iff.mp H
            obtain ⟨⟨t148, t149, t150, t151⟩, A690, H⟩ := H
            replace H : (some (t148, t149, t150, t151, 0, false, 8)) = some (r1, r2, r3, r4, r5, r6, r7) := H
            have A69 := Aside0.mk A690; clear A690
            simp only [Option.some.injEq, Prod.mk.injEq] at H
            obtain ⟨rfl, rfl, rfl, rfl, rfl, rfl, rfl⟩ := H
            have hnb70 := NB142_143.out; have hnc70 := NB143_142.out
            obtain ⟨hcz71_0, hcz71_1, hcz71_2, hcz71_3, hfz71_0, hfz71_1, hfz71_2, hfz71_3⟩ := blkall_4 BK142.out
            go_wp2_with (first | ((with_reducible refine gate_callee (f := 10) rfl ?_); refine goesL_ (some 102) rfl rfl Try.func10 (by kernel_rfl) rfl #[.string x143002_49] rfl (by (try simp only [List.map_toArray, List.map_cons, List.map_nil]); first | done | rfl | (simp only [List.length_drop, List.length_take]; rfl)) ?_; (with_reducible refine (sum_Sum.calls kj49 x143002_49 t147 _ A59.out).mono ?_); rintro e w' ⟨rfl, ⟨nd, rfl⟩⟩; refine ⟨_, rfl, ?_⟩; (try (rw [drewN_self wc]; generalize hq_ : World.drewN wc _ = wc; have n0_ : Aside0 (wc.heap[gb142]? = some (.cells #[.int .i64 a2, .int .u32 a3, .string x143002_49, .bool false] 32 (0, 0))) := ⟨by rw [← hq_]; exact (blk_up BK142.out)⟩; have n1_ : Aside0 (wc.heap[gb143]? = some (.cells #[.int .i64 0, .int .u32 0, .string (⟨#[]⟩ : ByteArray), .bool false] 32 (0, 0))) := ⟨by rw [← hq_]; exact (blk_up BK143.out)⟩; have n2_ : Aside0 (Below w.heap.size w wc) := ⟨by rw [← hq_]; exact (by repeat (first | (with_reducible first | exact HB.out | apply below_alloc | apply pw_below_drewN | apply below_drew1 | refine below_setA ?_ ‹_›) | exact HB.out))⟩; clear BK142 BK143 HB hq_; have BK142 := n0_; have BK143 := n1_; have HB := n2_; clear n0_ n1_ n2_; obtain ⟨hcz71_0, hcz71_1, hcz71_2, hcz71_3, hfz71_0, hfz71_1, hfz71_2, hfz71_3⟩ := blkall_4 BK142.out))) | ((with_reducible refine gate_callee (f := 30) rfl ?_); refine goesL_ (some 105) rfl rfl Try.func30 (by kernel_rfl) rfl #[] rfl (by (try simp only [List.map_toArray, List.map_cons, List.map_nil]); first | done | rfl | (simp only [List.length_drop, List.length_take]; rfl)) ?_; (with_reducible refine (stream_New.calls  t148 t149 t150 t151 _ A69.out).mono ?_); rintro e w72 ⟨rfl, hb⟩; refine ⟨_, rfl, ?_⟩; have n0_ := Aside0.mk (blk_below (blk_up BK142.out) hb); have n1_ := Aside0.mk (blk_below (blk_up BK143.out) hb); have n2_ := Aside0.mk (below_step (by repeat (first | (with_reducible first | exact HB.out | apply below_alloc | apply pw_below_drewN | apply below_drew1 | refine below_setA ?_ ‹_›) | exact HB.out)) hb); clear BK142; clear BK143; clear HB; have BK142 := n0_; have BK143 := n1_; have HB := n2_; clear n0_ n1_ n2_; (try clear hb); (try clear hb2); (try clear hk); (try clear hi); obtain ⟨hcz73_0, hcz73_1, hcz73_2, hcz73_3, hfz73_0, hfz73_1, hfz73_2, hfz73_3⟩ := blkall_4 BK143.out))
            refine bodyPost_ret (results_list (rs := [.cell 10 32, .tmp 11, .tmp 12, .tmp 13]) rfl (by simp) (.cell gb143 32 #[.int .i64 t148, .int .u32 t149, .string t150, .bool t151] (0, 0) _ rfl (by refine blk_up ?_; refine blk_put (cs := #[.int .i64 t148, .int .u32 t149, .string t150, .bool false]) ?_ 3 _ rfl; refine blk_up ?_; refine blk_put (cs := #[.int .i64 t148, .int .u32 t149, .string (⟨#[]⟩ : ByteArray), .bool false]) ?_ 2 _ rfl; refine blk_up ?_; refine blk_put (cs := #[.int .i64 t148, .int .u32 0, .string (⟨#[]⟩ : ByteArray), .bool false]) ?_ 1 _ rfl; refine blk_up ?_; refine blk_put (cs := #[.int .i64 0, .int .u32 0, .string (⟨#[]⟩ : ByteArray), .bool false]) ?_ 0 _ rfl; refine blk_up ?_; exact BK143.out) Try.underlying32 rfl (by kernel_rfl) (.tmp (.tmp (.tmp .nil))))) rfl ?_
            exact ⟨by first | rfl | (simp [errW_none, errW_some] <;> rfl) | (simp [*, errW_none, errW_some] <;> rfl), by repeat (first | (with_reducible first | exact HB.out | apply below_alloc | apply pw_below_drewN | apply below_drew1 | refine below_setA ?_ ‹_›) | exact HB.out)⟩
           rw [if_pos c60] at H
           have c60b0 : (t147 == a3) = true := beq_iff_eq.mpr c60
           have c60b1 : (t147 != a3) = false := bne_eq_false_iff_eq.mpr c60
           clear c60
           simp only [Option.some.injEq, Prod.mk.injEq] at H
           obtain ⟨rfl, rfl, rfl, rfl, rfl, rfl, rfl⟩ := H
           have hnb61 := NB142_143.out; have hnc61 := NB143_142.out
           obtain ⟨hcz62_0, hcz62_1, hcz62_2, hcz62_3, hfz62_0, hfz62_1, hfz62_2, hfz62_3⟩ := blkall_4 BK142.out
           try go_wp2_with (first | ((with_reducible refine gate_callee (f := 10) rfl ?_); refine goesL_ (some 102) rfl rfl Try.func10 (by kernel_rfl) rfl #[.string x143002_49] rfl (by (try simp only [List.map_toArray, List.map_cons, List.map_nil]); first | done | rfl | (simp only [List.length_drop, List.length_take]; rfl)) ?_; (with_reducible refine (sum_Sum.calls kj49 x143002_49 t147 _ A59.out).mono ?_); rintro e w' ⟨rfl, ⟨nd, rfl⟩⟩; refine ⟨_, rfl, ?_⟩; (try (rw [drewN_self wc]; generalize hq_ : World.drewN wc _ = wc; have n0_ : Aside0 (wc.heap[gb142]? = some (.cells #[.int .i64 a2, .int .u32 a3, .string x143002_49, .bool false] 32 (0, 0))) := ⟨by rw [← hq_]; exact (blk_up BK142.out)⟩; have n1_ : Aside0 (wc.heap[gb143]? = some (.cells #[.int .i64 0, .int .u32 0, .string (⟨#[]⟩ : ByteArray), .bool false] 32 (0, 0))) := ⟨by rw [← hq_]; exact (blk_up BK143.out)⟩; have n2_ : Aside0 (Below w.heap.size w wc) := ⟨by rw [← hq_]; exact (by repeat (first | (with_reducible first | exact HB.out | apply below_alloc | apply pw_below_drewN | apply below_drew1 | refine below_setA ?_ ‹_›) | exact HB.out))⟩; clear BK142 BK143 HB hq_; have BK142 := n0_; have BK143 := n1_; have HB := n2_; clear n0_ n1_ n2_; obtain ⟨hcz62_0, hcz62_1, hcz62_2, hcz62_3, hfz62_0, hfz62_1, hfz62_2, hfz62_3⟩ := blkall_4 BK142.out))))
           have n0_ : Aside0 ((wc.setCell ⟨gb142, 3, none⟩ (.bool true)).heap[gb142]? = some (.cells #[.int .i64 a2, .int .u32 a3, .string x143002_49, .bool true] 32 (0, 0))) := ⟨by refine blk_up ?_; refine blk_put (cs := #[.int .i64 a2, .int .u32 a3, .string x143002_49, .bool false]) ?_ 3 _ rfl; refine blk_up ?_; exact BK142.out⟩
           have n1_ : Aside0 ((wc.setCell ⟨gb142, 3, none⟩ (.bool true)).heap[gb143]? = some (.cells #[.int .i64 0, .int .u32 0, .string (⟨#[]⟩ : ByteArray), .bool false] 32 (0, 0))) := ⟨by refine blk_up ?_; refine blk_far ?_ NB143_142.out _; refine blk_up ?_; exact BK143.out⟩
           have n2_ : Aside0 (Below w.heap.size w (wc.setCell ⟨gb142, 3, none⟩ (.bool true))) := ⟨by repeat (first | (with_reducible first | exact HB.out | apply below_alloc | apply pw_below_drewN | apply below_drew1 | refine below_setA ?_ ‹_›) | exact HB.out)⟩
           (try clear BK142)
           (try clear BK143)
           (try clear HB)
           generalize (wc.setCell ⟨gb142, 3, none⟩ (.bool true)) = w63 at n0_ n1_ n2_ ⊢
           have BK142 := n0_; have BK143 := n1_; have HB := n2_; clear n0_ n1_ n2_
           have n0_ := Aside0.mk (blk_drew BK142.out)
           have n1_ := Aside0.mk (blk_drew BK143.out)
           have n2_ := Aside0.mk (below_drew1 HB.out)
           clear BK142; clear BK143; clear HB; have BK142 := n0_; have BK143 := n1_; have HB := n2_; clear n0_ n1_ n2_
           refine start_ (n := 13) (S := fun w' => w'.cell? ⟨gb142, 0, none⟩ = some (.int .i64 a2) ∧ w'.cell? ⟨gb142, 1, none⟩ = some (.int .u32 a3) ∧ w'.cell? ⟨gb142, 2, none⟩ = some (.string x143002_49) ∧ w'.cell? ⟨gb142, 3, none⟩ = some (.bool true)) (ds := []) #[false, false, false, false, false, false, false, false, false, false, false, false, false] (by kernel_rfl) rfl rfl ⟨(blk_cell BK142.out 0).trans rfl, (blk_cell BK142.out 1).trans rfl, (blk_cell BK142.out 2).trans rfl, (blk_cell BK142.out 3).trans rfl⟩ (fun hHeld => ?_); refine with_tabW stream_Take.tab16 stream_Take.bits16 (fun HT_ HW_ => ?_)
           generalize w63.drew = w64 at BK142 BK143 HB hHeld ⊢
           refine pure_ (i := 1) (N := some 108) (v := ?_) (a' := ?_) #[false, true, false, false, false, false, false, false, false, false, false, false, false] rfl rfl (any_of HT_.out (by kernel_rfl)) (fun _ _ _ h => h) (Or.inl ⟨by rfl, ?_⟩) ?_ ?_
           rotate_left
           ·
            intro w'
            go_simp
            with_reducible rfl
           rotate_left
           ·
            simp only [Act.put, List.setIfInBounds_toArray, List.set_cons_zero, List.set_cons_succ, i64_w, i32_w]
            rfl
           refine pure_ (i := 4) (N := some 111) (v := ?_) (a' := ?_) #[false, true, false, false, true, false, false, false, false, false, false, false, false] rfl rfl (any_of HT_.out (by kernel_rfl)) (fun _ _ _ h => h) (Or.inl ⟨by rfl, ?_⟩) ?_ ?_
           rotate_left
           ·
            intro w'
            go_simp
            with_reducible rfl
           rotate_left
           ·
            simp only [Act.put, List.setIfInBounds_toArray, List.set_cons_zero, List.set_cons_succ, i64_w, i32_w]
            rfl
           refine pure_ (i := 7) (N := some 114) (v := ?_) (a' := ?_) #[false, true, false, false, true, false, false, true, false, false, false, false, false] rfl rfl (any_of HT_.out (by kernel_rfl)) (fun _ _ _ h => h) (Or.inl ⟨by rfl, ?_⟩) ?_ ?_
           rotate_left
           ·
            intro w'
            go_simp
            with_reducible rfl
           rotate_left
           ·
            simp only [Act.put, List.setIfInBounds_toArray, List.set_cons_zero, List.set_cons_succ, i64_w, i32_w]
            rfl
           refine take_ (i := 0) (N := some 107) (v := ?_) (a' := ?_) #[true, true, false, false, true, false, false, true, false, false, false, false, false] rfl rfl (take_ofW HT_.out HW_.out (by kernel_rfl)) (fun _ _ _ h => h) (Or.inl ⟨by rfl, ?_⟩) hHeld ?_ ?_
           rotate_left
           ·
            rintro w' ⟨s0, s1, s2, s3⟩
            go_simp
            with_reducible rfl
           rotate_left
           ·
            simp only [Act.put, List.setIfInBounds_toArray, List.set_cons_zero, List.set_cons_succ, i64_w, i32_w]
            rfl
           refine take_ (i := 2) (N := some 109) (v := ?_) (a' := ?_) #[true, true, true, false, true, false, false, true, false, false, false, false, false] rfl rfl (take_ofW HT_.out HW_.out (by kernel_rfl)) (fun _ _ _ h => h) (Or.inl ⟨by rfl, ?_⟩) hHeld ?_ ?_
           rotate_left
           ·
            rintro w' ⟨s0, s1, s2, s3⟩
            go_simp
            with_reducible rfl
           rotate_left
           ·
            simp only [Act.put, List.setIfInBounds_toArray, List.set_cons_zero, List.set_cons_succ, i64_w, i32_w]
            rfl
           refine pure_ (i := 3) (N := some 110) (v := ?_) (a' := ?_) #[true, true, true, true, true, false, false, true, false, false, false, false, false] rfl rfl (any_of HT_.out (by kernel_rfl)) (fun _ _ _ h => h) (Or.inl ⟨by rfl, ?_⟩) ?_ ?_
           rotate_left
           ·
            intro w'
            go_simp
            with_reducible rfl
           rotate_left
           ·
            simp only [Act.put, List.setIfInBounds_toArray, List.set_cons_zero, List.set_cons_succ, i64_w, i32_w]
            rfl
           refine take_ (i := 5) (N := some 112) (v := ?_) (a' := ?_) #[true, true, true, true, true, true, false, true, false, false, false, false, false] rfl rfl (take_ofW HT_.out HW_.out (by kernel_rfl)) (fun _ _ _ h => h) (Or.inl ⟨by rfl, ?_⟩) hHeld ?_ ?_
           rotate_left
           ·
            rintro w' ⟨s0, s1, s2, s3⟩
            go_simp
            with_reducible rfl
           rotate_left
           ·
            simp only [Act.put, List.setIfInBounds_toArray, List.set_cons_zero, List.set_cons_succ, i64_w, i32_w]
            rfl
           refine pure_ (i := 6) (N := some 113) (v := ?_) (a' := ?_) #[true, true, true, true, true, true, true, true, false, false, false, false, false] rfl rfl (any_of HT_.out (by kernel_rfl)) (fun _ _ _ h => h) (Or.inl ⟨by rfl, ?_⟩) ?_ ?_
           rotate_left
           ·
            intro w'
            go_simp
            with_reducible rfl
           rotate_left
           ·
            simp only [Act.put, List.setIfInBounds_toArray, List.set_cons_zero, List.set_cons_succ, i64_w, i32_w]
            rfl
           refine pure_ (i := 8) (N := some 115) (v := ?_) (a' := ?_) #[true, true, true, true, true, true, true, true, true, false, false, false, false] rfl rfl (any_of HT_.out (by kernel_rfl)) (fun _ _ _ h => h) (Or.inl ⟨by rfl, ?_⟩) ?_ ?_
           rotate_left
           ·
            intro w'
            go_simp
            with_reducible rfl
           rotate_left
           ·
            simp only [Act.put, List.setIfInBounds_toArray, List.set_cons_zero, List.set_cons_succ, i64_w, i32_w]
            rfl
           refine one_ (i := 9) (N := none) #[true, true, true, true, true, true, true, true, true, true, false, false, false] rfl rfl (one_of HT_.out (by kernel_rfl)) (by decide) (fun K hK => ?_)
           have hs65 : w64.cell? ⟨gb143, 0, none⟩ = some (.int .i64 0) := (blk_cell BK143.out 0).trans rfl
           have hfs65 := blk_frozen BK143.out 0; have hns65_0 := NB142_143.out; have hms65_0 := NB143_142.out
           have hs66 : w64.cell? ⟨gb143, 1, none⟩ = some (.int .u32 0) := (blk_cell BK143.out 1).trans rfl
           have hfs66 := blk_frozen BK143.out 1; have hns66_0 := NB142_143.out; have hms66_0 := NB143_142.out
           have hs67 : w64.cell? ⟨gb143, 2, none⟩ = some (.string (⟨#[]⟩ : ByteArray)) := (blk_cell BK143.out 2).trans rfl
           have hfs67 := blk_frozen BK143.out 2; have hns67_0 := NB142_143.out; have hms67_0 := NB143_142.out
           have hs68 : w64.cell? ⟨gb143, 3, none⟩ = some (.bool false) := (blk_cell BK143.out 3).trans rfl
           have hfs68 := blk_frozen BK143.out 3; have hns68_0 := NB142_143.out; have hms68_0 := NB143_142.out
           refine skip_ (w1 := ?_) (by rfl) rfl ?_ ?_
           rotate_left
           ·
            go_simp
            rfl
           refine hK.out _ _ ⟨((cell_far (p := ⟨gb143, _, none⟩) NB142_143.out _).trans (((cell_far (p := ⟨gb143, _, none⟩) NB142_143.out _).trans (((cell_far (p := ⟨gb143, _, none⟩) NB142_143.out _).trans (((cell_far (p := ⟨gb143, _, none⟩) NB142_143.out _).trans (hHeld.1)))))))), ((cell_far (p := ⟨gb143, _, none⟩) NB142_143.out _).trans (((cell_far (p := ⟨gb143, _, none⟩) NB142_143.out _).trans (((cell_far (p := ⟨gb143, _, none⟩) NB142_143.out _).trans (((cell_far (p := ⟨gb143, _, none⟩) NB142_143.out _).trans (hHeld.2.1)))))))), ((cell_far (p := ⟨gb143, _, none⟩) NB142_143.out _).trans (((cell_far (p := ⟨gb143, _, none⟩) NB142_143.out _).trans (((cell_far (p := ⟨gb143, _, none⟩) NB142_143.out _).trans (((cell_far (p := ⟨gb143, _, none⟩) NB142_143.out _).trans (hHeld.2.2.1)))))))), ((cell_far (p := ⟨gb143, _, none⟩) NB142_143.out _).trans (((cell_far (p := ⟨gb143, _, none⟩) NB142_143.out _).trans (((cell_far (p := ⟨gb143, _, none⟩) NB142_143.out _).trans (((cell_far (p := ⟨gb143, _, none⟩) NB142_143.out _).trans (hHeld.2.2.2))))))))⟩ (fun hHeld => ?_)
           clear hK K
           refine pure_ (i := 10) (N := some 11) (v := ?_) (a' := ?_) #[true, true, true, true, true, true, true, true, true, true, true, false, false] rfl rfl (any_of HT_.out (by kernel_rfl)) (fun _ _ _ h => h) (Or.inl ⟨by rfl, ?_⟩) ?_ ?_
           rotate_left
           ·
            intro w'
            go_simp
            with_reducible rfl
           rotate_left
           ·
            simp only [Act.put, List.setIfInBounds_toArray, List.set_cons_zero, List.set_cons_succ, i64_w, i32_w]
            rfl
           refine pure_ (i := 11) (N := some 12) (v := ?_) (a' := ?_) #[true, true, true, true, true, true, true, true, true, true, true, true, false] rfl rfl (any_of HT_.out (by kernel_rfl)) (fun _ _ _ h => h) (Or.inl ⟨by rfl, ?_⟩) ?_ ?_
           rotate_left
           ·
            intro w'
            go_simp
            with_reducible rfl
           rotate_left
           ·
            simp only [Act.put, List.setIfInBounds_toArray, List.set_cons_zero, List.set_cons_succ, i64_w, i32_w]
            rfl
           refine pure_ (i := 12) (N := some 13) (v := ?_) (a' := ?_) #[true, true, true, true, true, true, true, true, true, true, true, true, true] rfl rfl (any_of HT_.out (by kernel_rfl)) (fun _ _ _ h => h) (Or.inl ⟨by rfl, ?_⟩) ?_ ?_
           rotate_left
           ·
            intro w'
            go_simp
            with_reducible rfl
           rotate_left
           ·
            simp only [Act.put, List.setIfInBounds_toArray, List.set_cons_zero, List.set_cons_succ, i64_w, i32_w]
            rfl
           refine done_ (done_of HT_.out (by kernel_rfl)) ?_
           try go_wp2
           refine bodyPost_ret (results_list (rs := [.cell 10 32, .tmp 11, .tmp 12, .tmp 13]) rfl (by simp) (.cell gb143 32 #[.int .i64 a2, .int .u32 a3, .string x143002_49, .bool true] (0, 0) _ rfl (by refine blk_up ?_; refine blk_put (cs := #[.int .i64 a2, .int .u32 a3, .string x143002_49, .bool false]) ?_ 3 _ rfl; refine blk_up ?_; refine blk_put (cs := #[.int .i64 a2, .int .u32 a3, .string (⟨#[]⟩ : ByteArray), .bool false]) ?_ 2 _ rfl; refine blk_up ?_; refine blk_put (cs := #[.int .i64 a2, .int .u32 0, .string (⟨#[]⟩ : ByteArray), .bool false]) ?_ 1 _ rfl; refine blk_up ?_; refine blk_put (cs := #[.int .i64 0, .int .u32 0, .string (⟨#[]⟩ : ByteArray), .bool false]) ?_ 0 _ rfl; refine blk_up ?_; exact BK143.out) Try.underlying32 rfl (by kernel_rfl) (.tmp (.tmp (.tmp .nil))))) rfl ?_
           exact ⟨by first | rfl | (simp [errW_none, errW_some] <;> rfl) | (simp [*, errW_none, errW_some] <;> rfl), by repeat (first | (with_reducible first | exact HB.out | apply below_alloc | apply pw_below_drewN | apply below_drew1 | refine below_setA ?_ ‹_›) | exact HB.out)⟩
/-! ### thresherref19_New: function 31 -/
def thresherref19_New.f  : Option (Int × Int × ByteArray × Bool) := some ((-1), 0, (⟨#[]⟩ : ByteArray), false)
set_option maxHeartbeats 8000000 in
set_option maxRecDepth 100000 in
theorem thresherref19_New.calls  (r1 : Int) (r2 : Int) (r3 : ByteArray) (r4 : Bool) (w : World) (h : thresherref19_New.f  = some (r1, r2, r3, r4)) :
  Calls Try.prog 31 #[] w fun e w' => e = .returned (.agg #[.int .i64 r1, .int .u32 r2, .string r3, .bool r4]) ∧ Below w.heap.size w w' := by
 have hu32 := Try.underlying32
 have HB := Aside0.mk (Below.refl w.heap.size w)
 have H : (some ((-1), 0, (⟨#[]⟩ : ByteArray), false)) = some (r1, r2, r3, r4) := h
 clear h
 simp only [Option.some.injEq, Prod.mk.injEq] at H
 obtain ⟨rfl, rfl, rfl, rfl⟩ := H
 go_enter Try.func31, Try.ntmps31
 go_wp2_with (first | ((with_reducible refine gate_dst (N := 0) rfl ?_); refine box_event ?hg (N := 0) ?hd (cs := #[.int .i64 0, .int .u32 0, .string (⟨#[]⟩ : ByteArray), .bool false]) (t := 32) ?hr ?_; (case hd => rfl); (case hg => rfl); (case hr => first | (go_simp; done) | (go_simp; rfl)); intro gb152 hg w1 hbox hb; have n0_ := Aside0.mk (below_step (by repeat (first | (with_reducible first | exact HB.out | apply below_alloc | apply pw_below_drewN | apply below_drew1) | exact HB.out)) hb); have n1_ := Aside0.mk (hbox); have n2_ := Aside0.mk ((by rw [hg]; exact (below_size (by repeat (first | (with_reducible first | exact HB.out | apply below_alloc | apply pw_below_drewN | apply below_drew1) | exact HB.out))) : w.heap.size ≤ gb152)); have n3_ := n2_; clear HB; have HB := n0_; have BK152 := n1_; have GW152 := n2_; have GE152 := n3_; clear n0_ n1_ n2_ n3_; clear hb hbox hg; obtain ⟨hcz2_0, hcz2_1, hcz2_2, hcz2_3, hfz2_0, hfz2_1, hfz2_2, hfz2_3⟩ := blkall_4 BK152.out))
 refine bodyPost_ret (results_cell_row rfl _ _ gb152 32 #[.int .i64 (-1), .int .u32 0, .string (⟨#[]⟩ : ByteArray), .bool false] (0, 0) _ rfl (by refine blk_up ?_; refine blk_put (cs := #[.int .i64 (-1), .int .u32 0, .string (⟨#[]⟩ : ByteArray), .bool false]) ?_ 3 _ rfl; refine blk_up ?_; refine blk_put (cs := #[.int .i64 (-1), .int .u32 0, .string (⟨#[]⟩ : ByteArray), .bool false]) ?_ 2 _ rfl; refine blk_up ?_; refine blk_put (cs := #[.int .i64 (-1), .int .u32 0, .string (⟨#[]⟩ : ByteArray), .bool false]) ?_ 1 _ rfl; refine blk_up ?_; refine blk_put (cs := #[.int .i64 0, .int .u32 0, .string (⟨#[]⟩ : ByteArray), .bool false]) ?_ 0 _ rfl; refine blk_up ?_; exact BK152.out) Try.underlying32 rfl (by kernel_rfl)) rfl ?_
 exact ⟨by first | rfl | (simp [errW_none, errW_some] <;> rfl) | (simp [*, errW_none, errW_some] <;> rfl), by repeat (first | (with_reducible first | exact HB.out | apply below_alloc | apply pw_below_drewN | apply below_drew1 | refine below_setA ?_ ‹_›) | exact HB.out)⟩
end Go.Proofs.Ytbadcpaopdbgnaa.PStreamExact
