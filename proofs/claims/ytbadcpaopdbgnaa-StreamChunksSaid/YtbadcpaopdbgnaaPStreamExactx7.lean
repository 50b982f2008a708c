-- Written by printx.py, a program of this workplace over the kit's printer; Lean checks it.
import Derived.Test.YtbadcpaopdbgnaaPStreamExactx0
import Derived.Test.YtbadcpaopdbgnaaPStreamExactx1
import Derived.Test.YtbadcpaopdbgnaaPStreamExactx2
import Derived.Test.YtbadcpaopdbgnaaPStreamExactx3
import Derived.Test.YtbadcpaopdbgnaaPStreamExactx4
import Derived.Test.YtbadcpaopdbgnaaPStreamExactx5
import Derived.Test.YtbadcpaopdbgnaaPStreamExactx6
namespace Go.Proofs.Ytbadcpaopdbgnaa.PStreamExact
open Go.RowKit Go.Proofs.YtbadcpaopdbgnaaW.PrintWords Go.Proofs.YtbadcpaopdbgnaaW.PrintLast Go.Proofs.YtbadcpaopdbgnaaW.PrintMore
attribute [local go_sem] max2_int min2_int max_two min_two max_three min_three max_four min_four   -- for this text's walks alone
set_option linter.unusedVariables false
set_option linter.unusedSimpArgs false

attribute [local go_sem high] eqA30 eqA32
/-! ### thresherref19_Take: function 27 -/
mutual
def thresherref19_Take.j0 : Nat → Int → Int → Int → ByteArray → Bool → Int → Int → ByteArray → Bool → Option (Int × Int × ByteArray × Bool × Int × Bool × Int)
 | 0, _, _, _, _, _, _, _, _, _ => none
 | k + 1, x1, x2, x3, x4, x29, x163000, x163001, x163002, x163003 => if x29 = true then (some (0, 0, (⟨#[]⟩ : ByteArray), false, 0, false, 7)) else (if x163003 = true then (some (x163000, x163001, x163002, x163003, x163000, false, 0)) else (if x1 ≤ (x163002.size : Int) then (thresherref19_Take.j1 k x1 x2 x3 x4 (decide ((wrap64 (x1 + (x4.size : Int))) > (x163002.size : Int))) x2 x3 x163002 x163003) else (thresherref19_Take.j1 k x1 x2 x3 x4 false x2 x3 x163002 x163003)))
def thresherref19_Take.j1 : Nat → Int → Int → Int → ByteArray → Bool → Int → Int → ByteArray → Bool → Option (Int × Int × ByteArray × Bool × Int × Bool × Int)
 | 0, _, _, _, _, _, _, _, _, _ => none
 | k + 1, x1, x2, x3, x4, x14, x163000, x163001, x163002, x163003 => if x14 = true then (if 0 ≤ (wrap64 ((x163002.size : Int) - x1)) then (if (wrap64 ((x163002.size : Int) - x1)) ≤ (x4.size : Int) then (if x163002.size + (x4.extract ((wrap64 ((x163002.size : Int) - x1)) : Int).toNat x4.size).size ≤ 9223372036854775807 then (thresherref19_Take.j2 k x2 x3 x14 x163000 x163001 (x163002 ++ (x4.extract ((wrap64 ((x163002.size : Int) - x1)) : Int).toNat x4.size)) x163003) else (none)) else (none)) else (none)) else (thresherref19_Take.j2 k x2 x3 x14 x163000 x163001 x163002 x163003)
def thresherref19_Take.j2 : Nat → Int → Int → Bool → Int → Int → ByteArray → Bool → Option (Int × Int × ByteArray × Bool × Int × Bool × Int)
 | 0, _, _, _, _, _, _, _ => none
 | k + 1, x2, x3, x14, x163000, x163001, x163002, x163003 => if (x163002.size : Int) = x2 then ((thresherref1_Sum.f k x163002).bind fun t164 => (if t164 = x3 then (some (x163000, x163001, x163002, true, (x163002.size : Int), x14, 0)) else ((thresherref19_New.f).bind fun bt165 => (some (bt165.1, bt165.2.1, bt165.2.2.1, bt165.2.2.2, 0, false, 8))))) else (some (x163000, x163001, x163002, x163003, (x163002.size : Int), x14, 0))
end
def thresherref19_Take.f (k : Nat) (a0_0 : Int) (a0_1 : Int) (a0_2 : ByteArray) (a0_3 : Bool) (a1 : Int) (a2 : Int) (a3 : Int) (a4 : ByteArray) : Option (Int × Int × ByteArray × Bool × Int × Bool × Int) := if a0_0 ≥ 0 then (if a0_0 = a2 then (thresherref19_Take.j0 k a1 a2 a3 a4 (a0_1 != a3) a0_0 a0_1 a0_2 a0_3) else (thresherref19_Take.j0 k a1 a2 a3 a4 true a0_0 a0_1 a0_2 a0_3)) else (thresherref19_Take.j0 k a1 a2 a3 a4 false a0_0 a0_1 a0_2 a0_3)
def thresherref19_Take.T8 : Bool × List (List Nat × List Nat) := (true, [([], []), ([0], [0]), ([], []), ([], []), ([3], [3]), ([4], [4]), ([], []), ([5, 6], [5, 6]), ([2, 7], [2, 7]), ([1, 8], [1, 8]), ([0, 1, 2, 3, 4, 5, 6, 7, 8, 9], []), ([10, 9, 0, 1, 2, 3, 4, 5, 6, 7, 8, 9], [9, 10])])
def thresherref19_Take.B8 : List Nat := [0, 1, 0, 0, 8, 24, 0, 120, 252, 511, 1023, 2047]
theorem thresherref19_Take.tab8 : rtab .any (opsOf Try.f27 8) = thresherref19_Take.T8 := by kernel_rfl
theorem thresherref19_Take.bits8 : waitsOk thresherref19_Take.T8.2 thresherref19_Take.B8 = true := by kernel_rfl
def thresherref19_Take.T13 : Bool × List (List Nat × List Nat) := (true, [([], []), ([], []), ([1], [1]), ([2], [2]), ([], []), ([0, 0], [0]), ([3, 5, 0, 1, 2, 3, 5], [3]), ([4, 6, 0, 1, 2, 3, 4, 5, 6], [4]), ([7, 0, 1, 2, 3, 4, 5, 6, 7], [])])
def thresherref19_Take.B13 : List Nat := [0, 0, 2, 6, 0, 1, 47, 127, 255]
theorem thresherref19_Take.tab13 : rtab .any (opsOf Try.f27 13) = thresherref19_Take.T13 := by kernel_rfl
theorem thresherref19_Take.bits13 : waitsOk thresherref19_Take.T13.2 thresherref19_Take.B13 = true := by kernel_rfl
set_option maxHeartbeats 8000000 in
set_option maxRecDepth 100000 in
theorem thresherref19_Take.calls (k : Nat) (a0_0 : Int) (a0_1 : Int) (a0_2 : ByteArray) (a0_3 : Bool) (a1 : Int) (a2 : Int) (a3 : Int) (a4 : ByteArray) (r1 : Int) (r2 : Int) (r3 : ByteArray) (r4 : Bool) (r5 : Int) (r6 : Bool) (r7 : Int) (w : World) (h : thresherref19_Take.f k a0_0 a0_1 a0_2 a0_3 a1 a2 a3 a4 = some (r1, r2, r3, r4, r5, r6, r7)) :
  Calls Try.prog 27 #[.agg #[.int .i64 a0_0, .int .u32 a0_1, .string a0_2, .bool a0_3], .int .i64 a1, .int .i64 a2, .int .u32 a3, .string a4] w fun e w' => e = .returned (.tuple #[.agg #[.int .i64 r1, .int .u32 r2, .string r3, .bool r4], .int .i64 r5, .bool r6, .int .i64 r7]) ∧ Below w.heap.size w w' := by
 have hu32 := Try.underlying32
 have HB := Aside0.mk (Below.refl w.heap.size w)
 have H : (if a0_0 ≥ 0 then (if a0_0 = a2 then (thresherref19_Take.j0 k a1 a2 a3 a4 (a0_1 != a3) a0_0 a0_1 a0_2 a0_3) else (thresherref19_Take.j0 k a1 a2 a3 a4 true a0_0 a0_1 a0_2 a0_3)) else (thresherref19_Take.j0 k a1 a2 a3 a4 false a0_0 a0_1 a0_2 a0_3)) = some (r1, r2, r3, r4, r5, r6, r7) := h
 clear h; have HC6 := Aside0.mk H; clear H
 go_enter Try.func27, Try.ntmps27
 go_upto_region 1 with (first | ((with_reducible refine gate_dst (N := 5) rfl ?_); (try (refine gate_guard (by rfl) ?_; dsimp only)); refine box_event ?hg (N := 5) ?hd (cs := #[.int .i64 a0_0, .int .u32 a0_1, .string a0_2, .bool a0_3]) (t := 32) ?hr ?_; (case hd => rfl); (case hg => rfl); (case hr => first | (go_simp; done) | (go_simp; rfl)); intro gb162 hg w7 hbox hb; have n0_ := Aside0.mk (below_step (by repeat (first | (with_reducible first | exact HB.out | apply below_alloc | apply pw_below_drewN | apply below_drew1) | exact HB.out)) hb); have n1_ := Aside0.mk (hbox); have n2_ := Aside0.mk ((by rw [hg]; exact (below_size (by repeat (first | (with_reducible first | exact HB.out | apply below_alloc | apply pw_below_drewN | apply below_drew1) | exact HB.out))) : w.heap.size ≤ gb162)); have n3_ := n2_; clear HB; have HB := n0_; have BK162 := n1_; have GW162 := n2_; have GE162 := n3_; clear n0_ n1_ n2_ n3_; clear hb hbox hg) | ((with_reducible refine gate_dst (N := 10) rfl ?_); (try (refine gate_guard (by rfl) ?_; dsimp only)); refine box_event ?hg (N := 10) ?hd (cs := #[.int .i64 0, .int .u32 0, .string (⟨#[]⟩ : ByteArray), .bool false]) (t := 32) ?hr ?_; (case hd => rfl); (case hg => rfl); (case hr => first | (go_simp; done) | (go_simp; rfl)); intro gb163 hg w8 hbox hb; have n0_ := Aside0.mk (blk_below (blk_up BK162.out) hb); have n1_ := Aside0.mk (below_step (by repeat (first | (with_reducible first | exact HB.out | apply below_alloc | apply pw_below_drewN | apply below_drew1 | refine below_setA ?_ ‹_›) | exact HB.out)) hb); have n2_ := Aside0.mk (hbox); have n3_ := Aside0.mk ((by rw [hg]; exact (below_size (by repeat (first | (with_reducible first | exact HB.out | apply below_alloc | apply pw_below_drewN | apply below_drew1 | refine below_setA ?_ ‹_›) | exact HB.out))) : w.heap.size ≤ gb163)); have n4_ := n3_; have n5_ := Aside0.mk ((by rw [hg]; exact Nat.ne_of_lt (blk_lt (blk_up BK162.out)) : gb162 ≠ gb163)); have n6_ := Aside0.mk ((by rw [hg]; exact Nat.ne_of_gt (blk_lt (blk_up BK162.out)) : gb163 ≠ gb162)); clear BK162; clear HB; have BK162 := n0_; have HB := n1_; have BK163 := n2_; have GW163 := n3_; have GE163 := n4_; have NB162_163 := n5_; have NB163_162 := n6_; clear n0_ n1_ n2_ n3_ n4_ n5_ n6_; clear hb hbox hg))
 (try simp only [Act.put, List.setIfInBounds_toArray, List.set_cons_zero, List.set_cons_succ])
 go_cut [29] (fun v29 wc => ∃ (kq : Nat) (x29_5 : Bool), v29 = .bool x29_5 ∧ Aside0 (thresherref19_Take.j0 kq a1 a2 a3 a4 x29_5 a0_0 a0_1 a0_2 a0_3 = some (r1, r2, r3, r4, r5, r6, r7)) ∧ Aside0 (kq ≤ k) ∧ Aside0 (wc.heap[gb162]? = some (.cells #[.int .i64 a0_0, .int .u32 a0_1, .string a0_2, .bool a0_3] 32 (0, 0))) ∧ Aside0 (wc.heap[gb163]? = some (.cells #[.int .i64 0, .int .u32 0, .string (⟨#[]⟩ : ByteArray), .bool false] 32 (0, 0))) ∧ Aside0 (Below w.heap.size w wc))
 case first =>
  have H := HC6.out; clear HC6
  by_cases c9 : a0_0 ≥ 0
  rotate_left
  ·
   rw [if_neg c9] at H
   have c9b0 : decide (0 ≤ a0_0) = false := decide_eq_false c9
   clear c9
   (first | rw [c9b0] | (simp only [i64_w, i32_w]; rw [c9b0]) | skip)
   have H' := Aside0.mk H
   clear H; have hnb15 := NB162_163.out; have hnc15 := NB163_162.out
   obtain ⟨hcz16_0, hcz16_1, hcz16_2, hcz16_3, hfz16_0, hfz16_1, hfz16_2, hfz16_3⟩ := blkall_4 BK162.out
   go_wp2
   go_meet
   case rel => exact ⟨_, (false), (by first | rfl | (simp; done) | (simp [*]; done)), H', ⟨by first | omega | exact Nat.le_refl _⟩, ⟨blk_up BK162.out⟩, ⟨blk_up BK163.out⟩, ⟨by repeat (first | (with_reducible first | exact HB.out | apply below_alloc | apply pw_below_drewN | apply below_drew1 | refine below_setA ?_ ‹_›) | exact HB.out)⟩⟩
  rw [if_pos c9] at H
  have c9b0 : decide (0 ≤ a0_0) = true := decide_eq_true c9
  clear c9
  (first | rw [c9b0] | (simp only [i64_w, i32_w]; rw [c9b0]) | skip)
  by_cases c10 : a0_0 = a2
  rotate_left
  ·
   rw [if_neg c10] at H
   have c10b0 : (a0_0 == a2) = false := beq_eq_false_iff_ne.mpr c10
   have c10b1 : (a0_0 != a2) = true := bne_iff_ne.mpr c10
   have H' := Aside0.mk H
   clear H; have hnb13 := NB162_163.out; have hnc13 := NB163_162.out
   obtain ⟨hcz14_0, hcz14_1, hcz14_2, hcz14_3, hfz14_0, hfz14_1, hfz14_2, hfz14_3⟩ := blkall_4 BK162.out
   go_wp2
   go_meet
   case rel => exact ⟨_, (true), (by first | rfl | (simp; done) | (simp [*]; done)), H', ⟨by first | omega | exact Nat.le_refl _⟩, ⟨blk_up BK162.out⟩, ⟨blk_up BK163.out⟩, ⟨by repeat (first | (with_reducible first | exact HB.out | apply below_alloc | apply pw_below_drewN | apply below_drew1 | refine below_setA ?_ ‹_›) | exact HB.out)⟩⟩
  rw [if_pos c10] at H
  have c10b0 : (a0_0 == a2) = true := beq_iff_eq.mpr c10
  have c10b1 : (a0_0 != a2) = false := bne_eq_false_iff_eq.mpr c10
  clear c10
  have H' := Aside0.mk H
  clear H; have hnb11 := NB162_163.out; have hnc11 := NB163_162.out
  obtain ⟨hcz12_0, hcz12_1, hcz12_2, hcz12_3, hfz12_0, hfz12_1, hfz12_2, hfz12_3⟩ := blkall_4 BK162.out
  go_wp2
  go_meet
  case rel => exact ⟨_, ((a0_1 != a3)), (by first | rfl | (simp; done) | (simp [*]; done)), H', ⟨by first | omega | exact Nat.le_refl _⟩, ⟨blk_up BK162.out⟩, ⟨blk_up BK163.out⟩, ⟨by repeat (first | (with_reducible first | exact HB.out | apply below_alloc | apply pw_below_drewN | apply below_drew1 | refine below_setA ?_ ‹_›) | exact HB.out)⟩⟩
 case rest =>
  clear HC6
  obtain ⟨kq, x29_5, rfl, HA, HJ5, BK162, BK163, HB⟩ := hcut
  cases kq with
  | zero => exact absurd HA.out (by simp [thresherref19_Take.j0])
  | succ kj5 =>
   have H := HA.out; clear HA
   simp only [thresherref19_Take.j0] at H
   by_cases c17 : x29_5 = true
   ·
    subst c17
    have H1 : (some (0, 0, (⟨#[]⟩ : ByteArray), false, 0, false, 7)) = some (r1, r2, r3, r4, r5, r6, r7) := by rw [if_pos rfl] at H; exact H
    clear H; have H := H1; clear H1
    simp only [Option.some.injEq, Prod.mk.injEq] at H
    obtain ⟨rfl, rfl, rfl, rfl, rfl, rfl, rfl⟩ := H
    have hnb18 := NB163_162.out; have hnc18 := NB162_163.out
    obtain ⟨hcz19_0, hcz19_1, hcz19_2, hcz19_3, hfz19_0, hfz19_1, hfz19_2, hfz19_3⟩ := blkall_4 BK163.out
    go_wp2
    refine bodyPost_ret (results_list (rs := [.cell 10 32, .tmp 11, .tmp 12, .tmp 13]) rfl (by simp) (.cell gb163 32 #[.int .i64 0, .int .u32 0, .string (⟨#[]⟩ : ByteArray), .bool false] (0, 0) _ rfl (by refine blk_up ?_; refine blk_put (cs := #[.int .i64 0, .int .u32 0, .string (⟨#[]⟩ : ByteArray), .bool false]) ?_ 3 _ rfl; refine blk_up ?_; refine blk_put (cs := #[.int .i64 0, .int .u32 0, .string (⟨#[]⟩ : ByteArray), .bool false]) ?_ 2 _ rfl; refine blk_up ?_; refine blk_put (cs := #[.int .i64 0, .int .u32 0, .string (⟨#[]⟩ : ByteArray), .bool false]) ?_ 1 _ rfl; refine blk_up ?_; refine blk_put (cs := #[.int .i64 0, .int .u32 0, .string (⟨#[]⟩ : ByteArray), .bool false]) ?_ 0 _ rfl; refine blk_up ?_; exact BK163.out) Try.underlying32 rfl (by kernel_rfl) (.tmp (.tmp (.tmp .nil))))) rfl ?_
    exact ⟨by first | rfl | (simp [errW_none, errW_some] <;> rfl) | (simp [*, errW_none, errW_some] <;> rfl), by repeat (first | (with_reducible first | exact HB.out | apply below_alloc | apply pw_below_drewN | apply below_drew1 | refine below_setA ?_ ‹_›) | exact HB.out)⟩
   replace c17 := Bool.eq_false_iff.mpr c17
   subst c17
   have H1 : (if a0_3 = true then (some (a0_0, a0_1, a0_2, a0_3, a0_0, false, 0)) else (if a1 ≤ (a0_2.size : Int) then (thresherref19_Take.j1 kj5 a1 a2 a3 a4 (decide ((wrap64 (a1 + (a4.size : Int))) > (a0_2.size : Int))) a2 a3 a0_2 a0_3) else (thresherref19_Take.j1 kj5 a1 a2 a3 a4 false a2 a3 a0_2 a0_3))) = some (r1, r2, r3, r4, r5, r6, r7) := by rw [if_neg (show ¬ (false = true) by decide)] at H; exact H
   clear H; have H := H1; clear H1
   by_cases c20 : a0_3 = true
   ·
    subst c20
    have H1 : (some (a0_0, a0_1, a0_2, true, a0_0, false, 0)) = some (r1, r2, r3, r4, r5, r6, r7) := by rw [if_pos rfl] at H; exact H
    clear H; have H := H1; clear H1
    simp only [Option.some.injEq, Prod.mk.injEq] at H
    obtain ⟨rfl, rfl, rfl, rfl, rfl, rfl, rfl⟩ := H
    have hnb21 := NB162_163.out; have hnc21 := NB163_162.out
    obtain ⟨hcz22_0, hcz22_1, hcz22_2, hcz22_3, hfz22_0, hfz22_1, hfz22_2, hfz22_3⟩ := blkall_4 BK162.out
    try go_wp2
    have n0_ := Aside0.mk (blk_drew BK162.out)
    have n1_ := Aside0.mk (blk_drew BK163.out)
    have n2_ := Aside0.mk (below_drew1 HB.out)
    clear BK162; clear BK163; clear HB; have BK162 := n0_; have BK163 := n1_; have HB := n2_; clear n0_ n1_ n2_
    refine start_ (n := 7) (S := fun w' => w'.cell? ⟨gb162, 0, none⟩ = some (.int .i64 a0_0) ∧ w'.cell? ⟨gb162, 1, none⟩ = some (.int .u32 a0_1) ∧ w'.cell? ⟨gb162, 2, none⟩ = some (.string a0_2) ∧ w'.cell? ⟨gb162, 3, none⟩ = some (.bool true)) (ds := []) #[false, false, false, false, false, false, false] (by kernel_rfl) rfl rfl ⟨(blk_cell BK162.out 0).trans rfl, (blk_cell BK162.out 1).trans rfl, (blk_cell BK162.out 2).trans rfl, (blk_cell BK162.out 3).trans rfl⟩ (fun hHeld => ?_)
    generalize wc.drew = w23 at BK162 BK163 HB hHeld ⊢
    refine pure_ (i := 1) (N := some 34) (v := ?_) (a' := ?_) #[false, true, false, false, false, false, false] rfl rfl (by kernel_rfl) (fun _ _ _ h => h) (Or.inl ⟨by rfl, ?_⟩) ?_ ?_
    rotate_left
    ·
     intro w'
     go_simp
     with_reducible rfl
    rotate_left
    ·
     simp only [Act.put, List.setIfInBounds_toArray, List.set_cons_zero, List.set_cons_succ, i64_w, i32_w]
     rfl
    refine take_ (i := 0) (N := some 33) (v := ?_) (a' := ?_) #[true, true, false, false, false, false, false] rfl rfl (by kernel_rfl) (fun _ _ _ h => h) (Or.inl ⟨by rfl, ?_⟩) hHeld ?_ ?_
    rotate_left
    ·
     rintro w' ⟨s0, s1, s2, s3⟩
     go_simp
     with_reducible rfl
    rotate_left
    ·
     simp only [Act.put, List.setIfInBounds_toArray, List.set_cons_zero, List.set_cons_succ, i64_w, i32_w]
     rfl
    refine take_ (i := 2) (N := some 35) (v := ?_) (a' := ?_) #[true, true, true, false, false, false, false] rfl rfl (by kernel_rfl) (fun _ _ _ h => h) (Or.inl ⟨by rfl, ?_⟩) hHeld ?_ ?_
    rotate_left
    ·
     rintro w' ⟨s0, s1, s2, s3⟩
     go_simp
     with_reducible rfl
    rotate_left
    ·
     simp only [Act.put, List.setIfInBounds_toArray, List.set_cons_zero, List.set_cons_succ, i64_w, i32_w]
     rfl
    refine one_ (i := 3) (N := none) #[true, true, true, true, false, false, false] rfl rfl (by kernel_rfl) (by decide) (fun K hK => ?_)
    have hs24 : w23.cell? ⟨gb163, 0, none⟩ = some (.int .i64 0) := (blk_cell BK163.out 0).trans rfl
    have hfs24 := blk_frozen BK163.out 0; have hns24_0 := NB162_163.out; have hms24_0 := NB163_162.out
    have hs25 : w23.cell? ⟨gb163, 1, none⟩ = some (.int .u32 0) := (blk_cell BK163.out 1).trans rfl
    have hfs25 := blk_frozen BK163.out 1; have hns25_0 := NB162_163.out; have hms25_0 := NB163_162.out
    have hs26 : w23.cell? ⟨gb163, 2, none⟩ = some (.string (⟨#[]⟩ : ByteArray)) := (blk_cell BK163.out 2).trans rfl
    have hfs26 := blk_frozen BK163.out 2; have hns26_0 := NB162_163.out; have hms26_0 := NB163_162.out
    have hs27 : w23.cell? ⟨gb163, 3, none⟩ = some (.bool false) := (blk_cell BK163.out 3).trans rfl
    have hfs27 := blk_frozen BK163.out 3; have hns27_0 := NB162_163.out; have hms27_0 := NB163_162.out
    refine skip_ (w1 := ?_) (by rfl) rfl ?_ ?_
    rotate_left
    ·
     go_simp
     rfl
    refine hK.out _ _ ⟨((cell_far (p := ⟨gb163, _, none⟩) NB162_163.out _).trans (((cell_far (p := ⟨gb163, _, none⟩) NB162_163.out _).trans (((cell_far (p := ⟨gb163, _, none⟩) NB162_163.out _).trans (((cell_far (p := ⟨gb163, _, none⟩) NB162_163.out _).trans (hHeld.1)))))))), ((cell_far (p := ⟨gb163, _, none⟩) NB162_163.out _).trans (((cell_far (p := ⟨gb163, _, none⟩) NB162_163.out _).trans (((cell_far (p := ⟨gb163, _, none⟩) NB162_163.out _).trans (((cell_far (p := ⟨gb163, _, none⟩) NB162_163.out _).trans (hHeld.2.1)))))))), ((cell_far (p := ⟨gb163, _, none⟩) NB162_163.out _).trans (((cell_far (p := ⟨gb163, _, none⟩) NB162_163.out _).trans (((cell_far (p := ⟨gb163, _, none⟩) NB162_163.out _).trans (((cell_far (p := ⟨gb163, _, none⟩) NB162_163.out _).trans (hHeld.2.2.1)))))))), ((cell_far (p := ⟨gb163, _, none⟩) NB162_163.out _).trans (((cell_far (p := ⟨gb163, _, none⟩) NB162_163.out _).trans (((cell_far (p := ⟨gb163, _, none⟩) NB162_163.out _).trans (((cell_far (p := ⟨gb163, _, none⟩) NB162_163.out _).trans (hHeld.2.2.2))))))))⟩ (fun hHeld => ?_)
    clear hK K
    refine pure_ (i := 4) (N := some 11) (v := ?_) (a' := ?_) #[true, true, true, true, true, false, false] rfl rfl (by kernel_rfl) (fun _ _ _ h => h) (Or.inl ⟨by rfl, ?_⟩) ?_ ?_
    rotate_left
    ·
     intro w'
     go_simp
     with_reducible rfl
    rotate_left
    ·
     simp only [Act.put, List.setIfInBounds_toArray, List.set_cons_zero, List.set_cons_succ, i64_w, i32_w]
     rfl
    refine pure_ (i := 5) (N := some 12) (v := ?_) (a' := ?_) #[true, true, true, true, true, true, false] rfl rfl (by kernel_rfl) (fun _ _ _ h => h) (Or.inl ⟨by rfl, ?_⟩) ?_ ?_
    rotate_left
    ·
     intro w'
     go_simp
     with_reducible rfl
    rotate_left
    ·
     simp only [Act.put, List.setIfInBounds_toArray, List.set_cons_zero, List.set_cons_succ, i64_w, i32_w]
     rfl
    refine pure_ (i := 6) (N := some 13) (v := ?_) (a' := ?_) #[true, true, true, true, true, true, true] rfl rfl (by kernel_rfl) (fun _ _ _ h => h) (Or.inl ⟨by rfl, ?_⟩) ?_ ?_
    rotate_left
    ·
     intro w'
     go_simp
     with_reducible rfl
    rotate_left
    ·
     simp only [Act.put, List.setIfInBounds_toArray, List.set_cons_zero, List.set_cons_succ, i64_w, i32_w]
     rfl
    refine done_ (by kernel_rfl) ?_
    try go_wp2
    refine bodyPost_ret (results_list (rs := [.cell 10 32, .tmp 11, .tmp 12, .tmp 13]) rfl (by simp) (.cell gb163 32 #[.int .i64 a0_0, .int .u32 a0_1, .string a0_2, .bool true] (0, 0) _ rfl (by refine blk_up ?_; refine blk_put (cs := #[.int .i64 a0_0, .int .u32 a0_1, .string a0_2, .bool false]) ?_ 3 _ rfl; refine blk_up ?_; refine blk_put (cs := #[.int .i64 a0_0, .int .u32 a0_1, .string (⟨#[]⟩ : ByteArray), .bool false]) ?_ 2 _ rfl; refine blk_up ?_; refine blk_put (cs := #[.int .i64 a0_0, .int .u32 0, .string (⟨#[]⟩ : ByteArray), .bool false]) ?_ 1 _ rfl; refine blk_up ?_; refine blk_put (cs := #[.int .i64 0, .int .u32 0, .string (⟨#[]⟩ : ByteArray), .bool false]) ?_ 0 _ rfl; refine blk_up ?_; exact BK163.out) Try.underlying32 rfl (by kernel_rfl) (.tmp (.tmp (.tmp .nil))))) rfl ?_
    exact ⟨by first | rfl | (simp [errW_none, errW_some] <;> rfl) | (simp [*, errW_none, errW_some] <;> rfl), by repeat (first | (with_reducible first | exact HB.out | apply below_alloc | apply pw_below_drewN | apply below_drew1 | refine below_setA ?_ ‹_›) | exact HB.out)⟩
   replace c20 := Bool.eq_false_iff.mpr c20
   subst c20
   have H1 : (if a1 ≤ (a0_2.size : Int) then (thresherref19_Take.j1 kj5 a1 a2 a3 a4 (decide ((wrap64 (a1 + (a4.size : Int))) > (a0_2.size : Int))) a2 a3 a0_2 false) else (thresherref19_Take.j1 kj5 a1 a2 a3 a4 false a2 a3 a0_2 false)) = some (r1, r2, r3, r4, r5, r6, r7) := by rw [if_neg (show ¬ (false = true) by decide)] at H; exact H
   clear H; have H := H1; clear H1; have HC28 := Aside0.mk H; clear H; have hnb29 := NB162_163.out; have hnc29 := NB163_162.out
   obtain ⟨hcz30_0, hcz30_1, hcz30_2, hcz30_3, hfz30_0, hfz30_1, hfz30_2, hfz30_3⟩ := blkall_4 BK162.out
   go_upto_region 6 with (fail)
   go_cut [14] (fun v14 wc => ∃ (kq : Nat) (x14_27 : Bool), v14 = .bool x14_27 ∧ Aside0 (thresherref19_Take.j1 kq a1 a2 a3 a4 x14_27 a2 a3 a0_2 false = some (r1, r2, r3, r4, r5, r6, r7)) ∧ Aside0 (kq ≤ kj5) ∧ Aside0 (wc.heap[gb162]? = some (.cells #[.int .i64 a2, .int .u32 a3, .string a0_2, .bool false] 32 (0, 0))) ∧ Aside0 (wc.heap[gb163]? = some (.cells #[.int .i64 0, .int .u32 0, .string (⟨#[]⟩ : ByteArray), .bool false] 32 (0, 0))) ∧ Aside0 (Below w.heap.size w wc))
   case first =>
    have H := HC28.out; clear HC28
    by_cases c31 : a1 ≤ (a0_2.size : Int)
    rotate_left
    ·
     rw [if_neg c31] at H
     have c31b0 : decide (a1 ≤ (a0_2.size : Int)) = false := decide_eq_false c31
     clear c31
     (first | rw [c31b0] | (simp only [i64_w, i32_w]; rw [c31b0]) | skip)
     have H' := Aside0.mk H
     clear H; have hnb34 := NB162_163.out; have hnc34 := NB163_162.out
     obtain ⟨hcz35_0, hcz35_1, hcz35_2, hcz35_3, hfz35_0, hfz35_1, hfz35_2, hfz35_3⟩ := blkall_4 BK162.out
     go_wp2
     go_meet
     case rel => exact ⟨_, (false), (by first | rfl | (simp; done) | (simp [*]; done)), H', ⟨by have := HJ5.out; first | omega | exact Nat.le_refl _⟩, ⟨by refine blk_up ?_; refine blk_put (cs := #[.int .i64 a2, .int .u32 a0_1, .string a0_2, .bool false]) ?_ 1 _ rfl; refine blk_up ?_; refine blk_put (cs := #[.int .i64 a0_0, .int .u32 a0_1, .string a0_2, .bool false]) ?_ 0 _ rfl; refine blk_up ?_; exact BK162.out⟩, ⟨by (with_reducible repeat (first | refine blk_drewN ?_ _ | refine blk_drew ?_ | refine blk_alloc ?_ _ | refine blk_far ?_ NB163_162.out _)); exact BK163.out⟩, ⟨by repeat (first | (with_reducible first | exact HB.out | apply below_alloc | apply pw_below_drewN | apply below_drew1 | refine below_setA ?_ ‹_›) | exact HB.out)⟩⟩
    rw [if_pos c31] at H
    have c31b0 : decide (a1 ≤ (a0_2.size : Int)) = true := decide_eq_true c31
    clear c31
    (first | rw [c31b0] | (simp only [i64_w, i32_w]; rw [c31b0]) | skip)
    have H' := Aside0.mk H
    clear H; have hnb32 := NB162_163.out; have hnc32 := NB163_162.out
    obtain ⟨hcz33_0, hcz33_1, hcz33_2, hcz33_3, hfz33_0, hfz33_1, hfz33_2, hfz33_3⟩ := blkall_4 BK162.out
    go_wp2
    go_meet
    case rel => exact ⟨_, (decide ((wrap64 (a1 + (a4.size : Int))) > (a0_2.size : Int))), (by first | rfl | (simp; done) | (simp [*]; done)), H', ⟨by have := HJ5.out; first | omega | exact Nat.le_refl _⟩, ⟨by refine blk_up ?_; refine blk_put (cs := #[.int .i64 a2, .int .u32 a0_1, .string a0_2, .bool false]) ?_ 1 _ rfl; refine blk_up ?_; refine blk_put (cs := #[.int .i64 a0_0, .int .u32 a0_1, .string a0_2, .bool false]) ?_ 0 _ rfl; refine blk_up ?_; exact BK162.out⟩, ⟨by (with_reducible repeat (first | refine blk_drewN ?_ _ | refine blk_drew ?_ | refine blk_alloc ?_ _ | refine blk_far ?_ NB163_162.out _)); exact BK163.out⟩, ⟨by repeat (first | (with_reducible first | exact HB.out | apply below_alloc | apply pw_below_drewN | apply below_drew1 | refine below_setA ?_ ‹_›) | exact HB.out)⟩⟩
   case rest =>
    clear HC28
    (try clear c17); (try clear c20); (try clear hcz30_0); (try clear hcz30_1); (try clear hcz30_2); (try clear hcz30_3); (try clear hfz30_0); (try clear hfz30_1); (try clear hfz30_2); (try clear hfz30_3)
    obtain ⟨kq, x14_27, rfl, HA, HJ27, BK162, BK163, HB⟩ := hcut
    cases kq with
    | zero => exact absurd HA.out (by simp [thresherref19_Take.j1])
    | succ kj27 =>
     have H := HA.out; clear HA
     simp only [thresherref19_Take.j1] at H
     have HC36 := Aside0.mk H; clear H
     go_upto_if 55 with (fail)
     go_cut [] (fun wc => ∃ (kq : Nat) (x163002_35 : ByteArray), Aside0 (thresherref19_Take.j2 kq a2 a3 x14_27 a2 a3 x163002_35 false = some (r1, r2, r3, r4, r5, r6, r7)) ∧ Aside0 (kq ≤ kj27) ∧ Aside0 (wc.heap[gb162]? = some (.cells #[.int .i64 a2, .int .u32 a3, .string x163002_35, .bool false] 32 (0, 0))) ∧ Aside0 (wc.heap[gb163]? = some (.cells #[.int .i64 0, .int .u32 0, .string (⟨#[]⟩ : ByteArray), .bool false] 32 (0, 0))) ∧ Aside0 (Below w.heap.size w wc))
     case first =>
      have H := HC36.out; clear HC36
      by_cases c37 : x14_27 = true
      rotate_left
      ·
       replace c37 := Bool.eq_false_iff.mpr c37
       subst c37
       have H1 : (thresherref19_Take.j2 kj27 a2 a3 false a2 a3 a0_2 false) = some (r1, r2, r3, r4, r5, r6, r7) := by rw [if_neg (show ¬ (false = true) by decide)] at H; exact H
       clear H; have H := H1; clear H1
       have H' := Aside0.mk H
       clear H
       go_wp2
       go_meet
       case rel => exact ⟨_, (a0_2), H', ⟨by have := HJ5.out; have := HJ27.out; first | omega | exact Nat.le_refl _⟩, ⟨blk_up BK162.out⟩, ⟨blk_up BK163.out⟩, ⟨by repeat (first | (with_reducible first | exact HB.out | apply below_alloc | apply pw_below_drewN | apply below_drew1 | refine below_setA ?_ ‹_›) | exact HB.out)⟩⟩
      subst c37
      have H1 : (if 0 ≤ (wrap64 ((a0_2.size : Int) - a1)) then (if (wrap64 ((a0_2.size : Int) - a1)) ≤ (a4.size : Int) then (if a0_2.size + (a4.extract ((wrap64 ((a0_2.size : Int) - a1)) : Int).toNat a4.size).size ≤ 9223372036854775807 then (thresherref19_Take.j2 kj27 a2 a3 true a2 a3 (a0_2 ++ (a4.extract ((wrap64 ((a0_2.size : Int) - a1)) : Int).toNat a4.size)) false) else (none)) else (none)) else (none)) = some (r1, r2, r3, r4, r5, r6, r7) := by rw [if_pos rfl] at H; exact H
      clear H; have H := H1; clear H1
      obtain ⟨ji38, hji38⟩ : ∃ j_ : Int, (wrap64 ((a0_2.size : Int) - a1)) = j_ := ⟨_, rfl⟩
      replace H : (if 0 ≤ (ji38) then (if (ji38) ≤ (a4.size : Int) then (if a0_2.size + (a4.extract ((ji38) : Int).toNat a4.size).size ≤ 9223372036854775807 then (thresherref19_Take.j2 kj27 a2 a3 true a2 a3 (a0_2 ++ (a4.extract ((ji38) : Int).toNat a4.size)) false) else (none)) else (none)) else (none)) = some (r1, r2, r3, r4, r5, r6, r7) := by first | (rw [hji38] at H; exact H) | (simp only [hji38] at H ⊢; exact H)
      have hji38w : (IntKind.i64.wrap ((a0_2.size : Int) - a1)) = ji38 := (i64_w _).trans hji38
      by_cases c39 : 0 ≤ (ji38)
      rotate_left
      ·
       rw [if_neg c39] at H
       exact absurd H (by simp)
      rw [if_pos c39] at H
      have c39b0 := eq_true c39
      have c39b1 : decide (0 ≤ (ji38)) = true := decide_eq_true c39
      clear c39
      by_cases c40 : (ji38) ≤ (a4.size : Int)
      rotate_left
      ·
       rw [if_neg c40] at H
       exact absurd H (by simp)
      rw [if_pos c40] at H
      have c40b0 := eq_true c40
      have c40b1 : decide ((ji38) ≤ (a4.size : Int)) = true := decide_eq_true c40
      clear c40
      by_cases c41 : a0_2.size + (a4.extract ((ji38) : Int).toNat a4.size).size ≤ 9223372036854775807
      rotate_left
      ·
       rw [if_neg c41] at H
       exact absurd H (by simp)
      rw [if_pos c41] at H
      have c41b0 := eq_true c41
      have c41b1 : decide (a0_2.size + (a4.extract ((ji38) : Int).toNat a4.size).size ≤ 9223372036854775807) = true := decide_eq_true c41
      try have c41b2 : (9223372036854775807 < a0_2.size + (a4.extract ((ji38) : Int).toNat a4.size).size) = False := eq_false (Nat.not_lt.2 c41)
      try (have c41b3 := c41b2; simp only [ByteArray.size_extract, Nat.min_self] at c41b3)
      have H' := Aside0.mk H
      clear H
      try go_wp2
      have n0_ := Aside0.mk (blk_drew BK162.out)
      have n1_ := Aside0.mk (blk_drew BK163.out)
      have n2_ := Aside0.mk (below_drew1 HB.out)
      clear BK162; clear BK163; clear HB; have BK162 := n0_; have BK163 := n1_; have HB := n2_; clear n0_ n1_ n2_
      refine start_ (n := 12) (S := fun w' => w'.cell? ⟨gb162, 0, none⟩ = some (.int .i64 a2) ∧ w'.cell? ⟨gb162, 1, none⟩ = some (.int .u32 a3) ∧ w'.cell? ⟨gb162, 2, none⟩ = some (.string a0_2) ∧ w'.cell? ⟨gb162, 3, none⟩ = some (.bool false)) (ds := [11]) #[false, false, false, false, false, false, false, false, false, false, false, false] (by kernel_rfl) rfl rfl ⟨(blk_cell BK162.out 0).trans rfl, (blk_cell BK162.out 1).trans rfl, (blk_cell BK162.out 2).trans rfl, (blk_cell BK162.out 3).trans rfl⟩ (fun hHeld => ?_); refine with_tabW thresherref19_Take.tab8 thresherref19_Take.bits8 (fun HT_ HW_ => ?_)
      generalize wc.drew = w42 at BK162 BK163 HB hHeld ⊢
      refine pure_ (i := 0) (N := some 56) (v := ?_) (a' := ?_) #[true, false, false, false, false, false, false, false, false, false, false, false] rfl rfl (any_of HT_.out (by kernel_rfl)) (fun _ _ _ h => h) (Or.inl ⟨by rfl, ?_⟩) ?_ ?_
      rotate_left
      ·
       intro w'
       go_simp
       with_reducible rfl
      rotate_left
      ·
       simp only [Act.put, List.setIfInBounds_toArray, List.set_cons_zero, List.set_cons_succ, i64_w, i32_w]
       rfl
      refine pure_ (i := 2) (N := some 58) (v := ?_) (a' := ?_) #[true, false, true, false, false, false, false, false, false, false, false, false] rfl rfl (any_of HT_.out (by kernel_rfl)) (fun _ _ _ h => h) (Or.inl ⟨by rfl, ?_⟩) ?_ ?_
      rotate_left
      ·
       intro w'
       go_simp
       with_reducible rfl
      rotate_left
      ·
       simp only [Act.put, List.setIfInBounds_toArray, List.set_cons_zero, List.set_cons_succ, i64_w, i32_w]
       rfl
      refine pure_ (i := 3) (N := some 59) (v := ?_) (a' := ?_) #[true, false, true, true, false, false, false, false, false, false, false, false] rfl rfl (any_of HT_.out (by kernel_rfl)) (fun _ _ _ h => h) (Or.inl ⟨by rfl, ?_⟩) ?_ ?_
      rotate_left
      ·
       intro w'
       go_simp
       with_reducible rfl
      rotate_left
      ·
       simp only [Act.put, List.setIfInBounds_toArray, List.set_cons_zero, List.set_cons_succ, i64_w, i32_w]
       rfl
      refine pure_ (i := 6) (N := some 62) (v := ?_) (a' := ?_) #[true, false, true, true, false, false, true, false, false, false, false, false] rfl rfl (any_of HT_.out (by kernel_rfl)) (fun _ _ _ h => h) (Or.inl ⟨by rfl, ?_⟩) ?_ ?_
      rotate_left
      ·
       intro w'
       go_simp
       with_reducible rfl
      rotate_left
      ·
       simp only [Act.put, List.setIfInBounds_toArray, List.set_cons_zero, List.set_cons_succ, i64_w, i32_w]
       rfl
      refine take_ (i := 1) (N := some 57) (v := ?_) (a' := ?_) #[true, true, true, true, false, false, true, false, false, false, false, false] rfl rfl (take_ofW HT_.out HW_.out (by kernel_rfl)) (fun _ _ _ h => h) (Or.inl ⟨by rfl, ?_⟩) hHeld ?_ ?_
      rotate_left
      ·
       rintro w' ⟨s0, s1, s2, s3⟩
       go_simp
       with_reducible rfl
      rotate_left
      ·
       simp only [Act.put, List.setIfInBounds_toArray, List.set_cons_zero, List.set_cons_succ, i64_w, i32_w]
       rfl
      refine take_ (i := 4) (N := some 60) (v := ?_) (a' := ?_) #[true, true, true, true, true, false, true, false, false, false, false, false] rfl rfl (take_ofW HT_.out HW_.out (by kernel_rfl)) (fun _ _ _ h => h) (Or.inl ⟨by rfl, ?_⟩) hHeld ?_ ?_
      rotate_left
      ·
       rintro w' ⟨s0, s1, s2, s3⟩
       go_simp
       with_reducible rfl
      rotate_left
      ·
       simp only [Act.put, List.setIfInBounds_toArray, List.set_cons_zero, List.set_cons_succ, i64_w, i32_w]
       rfl
      refine pure_ (i := 5) (N := some 61) (v := ?_) (a' := ?_) #[true, true, true, true, true, true, true, false, false, false, false, false] rfl rfl (any_of HT_.out (by kernel_rfl)) (fun _ _ _ h => h) (Or.inl ⟨by rfl, ?_⟩) ?_ ?_
      rotate_left
      ·
       intro w'
       go_simp
       with_reducible rfl
      rotate_left
      ·
       simp only [Act.put, List.setIfInBounds_toArray, List.set_cons_zero, List.set_cons_succ, i64_w, i32_w]
       rfl
      refine pure_ (i := 7) (N := some 63) (v := ?_) (a' := ?_) #[true, true, true, true, true, true, true, true, false, false, false, false] rfl rfl (any_of HT_.out (by kernel_rfl)) (fun _ _ _ h => h) (Or.inl ⟨by rfl, ?_⟩) ?_ ?_
      rotate_left
      ·
       intro w'
       go_simp
       with_reducible rfl
      rotate_left
      ·
       simp only [Act.put, List.setIfInBounds_toArray, List.set_cons_zero, List.set_cons_succ, i64_w, i32_w]
       rfl
      refine pure_ (i := 8) (N := some 64) (v := ?_) (a' := ?_) #[true, true, true, true, true, true, true, true, true, false, false, false] rfl rfl (any_of HT_.out (by kernel_rfl)) (fun _ _ _ h => h) (Or.inl ⟨by rfl, ?_⟩) ?_ ?_
      rotate_left
      ·
       intro w'
       go_simp
       with_reducible rfl
      rotate_left
      ·
       simp only [Act.put, List.setIfInBounds_toArray, List.set_cons_zero, List.set_cons_succ, i64_w, i32_w]
       rfl
      refine pure_ (i := 9) (N := some 65) (v := ?_) (a' := ?_) #[true, true, true, true, true, true, true, true, true, true, false, false] rfl rfl (any_of HT_.out (by kernel_rfl)) (fun _ _ _ h => h) (Or.inl ⟨by rfl, ?_⟩) ?_ ?_
      rotate_left
      ·
       intro w'
       go_simp
       with_reducible rfl
      rotate_left
      ·
       simp only [Act.put, List.setIfInBounds_toArray, List.set_cons_zero, List.set_cons_succ, i64_w, i32_w]
       rfl
      refine pure_ (i := 10) (N := some 66) (v := ?_) (a' := ?_) #[true, true, true, true, true, true, true, true, true, true, true, false] rfl rfl (any_of HT_.out (by kernel_rfl)) (fun _ _ _ h => h) (Or.inl ⟨by rfl, ?_⟩) ?_ ?_
      rotate_left
      ·
       intro w'
       go_simp
       with_reducible rfl
      rotate_left
      ·
       simp only [Act.put, List.setIfInBounds_toArray, List.set_cons_zero, List.set_cons_succ, i64_w, i32_w]
       rfl
      refine last_ (i := 11) (N := none) #[true, true, true, true, true, true, true, true, true, true, true, true] rfl rfl (one_of HT_.out (by kernel_rfl)) (by decide) (fun K hK => ?_)
      have hs43 : w42.cell? ⟨gb162, 2, none⟩ = some (.string a0_2) := (blk_cell BK162.out 2).trans rfl
      have hfs43 := blk_frozen BK162.out 2; have hns43_1 := NB163_162.out; have hms43_1 := NB162_163.out
      refine skip_ (w1 := ?_) (by rfl) rfl ?_ ?_
      rotate_left
      ·
       go_simp
       rfl
      refine hK.out _ _ ?_
      clear hK K
      refine done_ (done_of HT_.out (by kernel_rfl)) ?_
      try go_wp2
      go_meet
      case rel => exact ⟨_, (a0_2 ++ (a4.extract ((ji38) : Int).toNat a4.size)), H', ⟨by have := HJ5.out; have := HJ27.out; first | omega | exact Nat.le_refl _⟩, ⟨by refine blk_up ?_; refine blk_put (cs := #[.int .i64 a2, .int .u32 a3, .string a0_2, .bool false]) ?_ 2 _ rfl; refine blk_up ?_; exact BK162.out⟩, ⟨by refine blk_up ?_; refine blk_far ?_ NB163_162.out _; refine blk_up ?_; exact BK163.out⟩, ⟨by repeat (first | (with_reducible first | exact HB.out | apply below_alloc | apply pw_below_drewN | apply below_drew1 | refine below_setA ?_ ‹_›) | exact HB.out)⟩⟩
     case rest =>
      clear HC36
      obtain ⟨kq, x163002_35, HA, HJ35, BK162, BK163, HB⟩ := hcut
      cases kq with
      | zero => exact absurd HA.out (by simp [thresherref19_Take.j2])
      | succ kj35 =>
       have H := HA.out; clear HA
       simp only [thresherref19_Take.j2] at H
       by_cases c44 : (x163002_35.size : Int) = a2
       rotate_left
       ·
        rw [if_neg c44] at H
        have c44b0 : ((x163002_35.size : Int) == a2) = false := beq_eq_false_iff_ne.mpr c44
        have c44b1 : ((x163002_35.size : Int) != a2) = true := bne_iff_ne.mpr c44
        simp only [Option.some.injEq, Prod.mk.injEq] at H
        obtain ⟨rfl, rfl, rfl, rfl, rfl, rfl, rfl⟩ := H
        have hnb60 := NB162_163.out; have hnc60 := NB163_162.out
        obtain ⟨hcz61_0, hcz61_1, hcz61_2, hcz61_3, hfz61_0, hfz61_1, hfz61_2, hfz61_3⟩ := blkall_4 BK162.out
        try go_wp2
        have n0_ := Aside0.mk (blk_drew BK162.out)
        have n1_ := Aside0.mk (blk_drew BK163.out)
        have n2_ := Aside0.mk (below_drew1 HB.out)
        clear BK162; clear BK163; clear HB; have BK162 := n0_; have BK163 := n1_; have HB := n2_; clear n0_ n1_ n2_
        refine start_ (n := 9) (S := fun w' => w'.cell? ⟨gb162, 0, none⟩ = some (.int .i64 a2) ∧ w'.cell? ⟨gb162, 1, none⟩ = some (.int .u32 a3) ∧ w'.cell? ⟨gb162, 2, none⟩ = some (.string x163002_35) ∧ w'.cell? ⟨gb162, 3, none⟩ = some (.bool false)) (ds := []) #[false, false, false, false, false, false, false, false, false] (by kernel_rfl) rfl rfl ⟨(blk_cell BK162.out 0).trans rfl, (blk_cell BK162.out 1).trans rfl, (blk_cell BK162.out 2).trans rfl, (blk_cell BK162.out 3).trans rfl⟩ (fun hHeld => ?_); refine with_tabW thresherref19_Take.tab13 thresherref19_Take.bits13 (fun HT_ HW_ => ?_)
        generalize wc.drew = w62 at BK162 BK163 HB hHeld ⊢
        refine pure_ (i := 1) (N := some 80) (v := ?_) (a' := ?_) #[false, true, false, false, false, false, false, false, false] rfl rfl (any_of HT_.out (by kernel_rfl)) (fun _ _ _ h => h) (Or.inl ⟨by rfl, ?_⟩) ?_ ?_
        rotate_left
        ·
         intro w'
         go_simp
         with_reducible rfl
        rotate_left
        ·
         simp only [Act.put, List.setIfInBounds_toArray, List.set_cons_zero, List.set_cons_succ, i64_w, i32_w]
         rfl
        refine pure_ (i := 4) (N := some 83) (v := ?_) (a' := ?_) #[false, true, false, false, true, false, false, false, false] rfl rfl (any_of HT_.out (by kernel_rfl)) (fun _ _ _ h => h) (Or.inl ⟨by rfl, ?_⟩) ?_ ?_
        rotate_left
        ·
         intro w'
         go_simp
         with_reducible rfl
        rotate_left
        ·
         simp only [Act.put, List.setIfInBounds_toArray, List.set_cons_zero, List.set_cons_succ, i64_w, i32_w]
         rfl
        refine take_ (i := 0) (N := some 79) (v := ?_) (a' := ?_) #[true, true, false, false, true, false, false, false, false] rfl rfl (take_ofW HT_.out HW_.out (by kernel_rfl)) (fun _ _ _ h => h) (Or.inl ⟨by rfl, ?_⟩) hHeld ?_ ?_
        rotate_left
        ·
         rintro w' ⟨s0, s1, s2, s3⟩
         go_simp
         with_reducible rfl
        rotate_left
        ·
         simp only [Act.put, List.setIfInBounds_toArray, List.set_cons_zero, List.set_cons_succ, i64_w, i32_w]
         rfl
        refine take_ (i := 2) (N := some 81) (v := ?_) (a' := ?_) #[true, true, true, false, true, false, false, false, false] rfl rfl (take_ofW HT_.out HW_.out (by kernel_rfl)) (fun _ _ _ h => h) (Or.inl ⟨by rfl, ?_⟩) hHeld ?_ ?_
        rotate_left
        ·
         rintro w' ⟨s0, s1, s2, s3⟩
         go_simp
         with_reducible rfl
        rotate_left
        ·
         simp only [Act.put, List.setIfInBounds_toArray, List.set_cons_zero, List.set_cons_succ, i64_w, i32_w]
         rfl
        refine pure_ (i := 3) (N := some 82) (v := ?_) (a' := ?_) #[true, true, true, true, true, false, false, false, false] rfl rfl (any_of HT_.out (by kernel_rfl)) (fun _ _ _ h => h) (Or.inl ⟨by rfl, ?_⟩) ?_ ?_
        rotate_left
        ·
         intro w'
         go_simp
         with_reducible rfl
        rotate_left
        ·
         simp only [Act.put, List.setIfInBounds_toArray, List.set_cons_zero, List.set_cons_succ, i64_w, i32_w]
         rfl
        refine one_ (i := 5) (N := none) #[true, true, true, true, true, true, false, false, false] rfl rfl (one_of HT_.out (by kernel_rfl)) (by decide) (fun K hK => ?_)
        have hs63 : w62.cell? ⟨gb163, 0, none⟩ = some (.int .i64 0) := (blk_cell BK163.out 0).trans rfl
        have hfs63 := blk_frozen BK163.out 0; have hns63_0 := NB162_163.out; have hms63_0 := NB163_162.out
        have hs64 : w62.cell? ⟨gb163, 1, none⟩ = some (.int .u32 0) := (blk_cell BK163.out 1).trans rfl
        have hfs64 := blk_frozen BK163.out 1; have hns64_0 := NB162_163.out; have hms64_0 := NB163_162.out
        have hs65 : w62.cell? ⟨gb163, 2, none⟩ = some (.string (⟨#[]⟩ : ByteArray)) := (blk_cell BK163.out 2).trans rfl
        have hfs65 := blk_frozen BK163.out 2; have hns65_0 := NB162_163.out; have hms65_0 := NB163_162.out
        have hs66 : w62.cell? ⟨gb163, 3, none⟩ = some (.bool false) := (blk_cell BK163.out 3).trans rfl
        have hfs66 := blk_frozen BK163.out 3; have hns66_0 := NB162_163.out; have hms66_0 := NB163_162.out
        refine skip_ (w1 := ?_) (by rfl) rfl ?_ ?_
        rotate_left
        ·
         go_simp
         rfl
        refine hK.out _ _ ⟨((cell_far (p := ⟨gb163, _, none⟩) NB162_163.out _).trans (((cell_far (p := ⟨gb163, _, none⟩) NB162_163.out _).trans (((cell_far (p := ⟨gb163, _, none⟩) NB162_163.out _).trans (((cell_far (p := ⟨gb163, _, none⟩) NB162_163.out _).trans (hHeld.1)))))))), ((cell_far (p := ⟨gb163, _, none⟩) NB162_163.out _).trans (((cell_far (p := ⟨gb163, _, none⟩) NB162_163.out _).trans (((cell_far (p := ⟨gb163, _, none⟩) NB162_163.out _).trans (((cell_far (p := ⟨gb163, _, none⟩) NB162_163.out _).trans (hHeld.2.1)))))))), ((cell_far (p := ⟨gb163, _, none⟩) NB162_163.out _).trans (((cell_far (p := ⟨gb163, _, none⟩) NB162_163.out _).trans (((cell_far (p := ⟨gb163, _, none⟩) NB162_163.out _).trans (((cell_far (p := ⟨gb163, _, none⟩) NB162_163.out _).trans (hHeld.2.2.1)))))))), ((cell_far (p := ⟨gb163, _, none⟩) NB162_163.out _).trans (((cell_far (p := ⟨gb163, _, none⟩) NB162_163.out _).trans (((cell_far (p := ⟨gb163, _, none⟩) NB162_163.out _).trans (((cell_far (p := ⟨gb163, _, none⟩) NB162_163.out _).trans (hHeld.2.2.2))))))))⟩ (fun hHeld => ?_)
        clear hK K
        refine pure_ (i := 6) (N := some 11) (v := ?_) (a' := ?_) #[true, true, true, true, true, true, true, false, false] rfl rfl (any_of HT_.out (by kernel_rfl)) (fun _ _ _ h => h) (Or.inl ⟨by rfl, ?_⟩) ?_ ?_
        rotate_left
        ·
         intro w'
         go_simp
         with_reducible rfl
        rotate_left
        ·
         simp only [Act.put, List.setIfInBounds_toArray, List.set_cons_zero, List.set_cons_succ, i64_w, i32_w]
         rfl
        refine pure_ (i := 7) (N := some 12) (v := ?_) (a' := ?_) #[true, true, true, true, true, true, true, true, false] rfl rfl (any_of HT_.out (by kernel_rfl)) (fun _ _ _ h => h) (Or.inl ⟨by rfl, ?_⟩) ?_ ?_
        rotate_left
        ·
         intro w'
         go_simp
         with_reducible rfl
        rotate_left
        ·
         simp only [Act.put, List.setIfInBounds_toArray, List.set_cons_zero, List.set_cons_succ, i64_w, i32_w]
         rfl
        refine pure_ (i := 8) (N := some 13) (v := ?_) (a' := ?_) #[true, true, true, true, true, true, true, true, true] rfl rfl (any_of HT_.out (by kernel_rfl)) (fun _ _ _ h => h) (Or.inl ⟨by rfl, ?_⟩) ?_ ?_
        rotate_left
        ·
         intro w'
         go_simp
         with_reducible rfl
        rotate_left
        ·
         simp only [Act.put, List.setIfInBounds_toArray, List.set_cons_zero, List.set_cons_succ, i64_w, i32_w]
         rfl
        refine done_ (done_of HT_.out (by kernel_rfl)) ?_
        try go_wp2
        refine bodyPost_ret (results_list (rs := [.cell 10 32, .tmp 11, .tmp 12, .tmp 13]) rfl (by simp) (.cell gb163 32 #[.int .i64 a2, .int .u32 a3, .string x163002_35, .bool false] (0, 0) _ rfl (by refine blk_up ?_; refine blk_put (cs := #[.int .i64 a2, .int .u32 a3, .string x163002_35, .bool false]) ?_ 3 _ rfl; refine blk_up ?_; refine blk_put (cs := #[.int .i64 a2, .int .u32 a3, .string (⟨#[]⟩ : ByteArray), .bool false]) ?_ 2 _ rfl; refine blk_up ?_; refine blk_put (cs := #[.int .i64 a2, .int .u32 0, .string (⟨#[]⟩ : ByteArray), .bool false]) ?_ 1 _ rfl; refine blk_up ?_; refine blk_put (cs := #[.int .i64 0, .int .u32 0, .string (⟨#[]⟩ : ByteArray), .bool false]) ?_ 0 _ rfl; refine blk_up ?_; exact BK163.out) Try.underlying32 rfl (by kernel_rfl) (.tmp (.tmp (.tmp .nil))))) rfl ?_
        exact ⟨by first | rfl | (simp [errW_none, errW_some] <;> rfl) | (simp [*, errW_none, errW_some] <;> rfl), by repeat (first | (with_reducible first | exact HB.out | apply below_alloc | apply pw_below_drewN | apply below_drew1 | refine below_setA ?_ ‹_›) | exact HB.out)⟩
       rw [if_pos c44] at H
       have c44b0 : ((x163002_35.size : Int) == a2) = true := beq_iff_eq.mpr c44
       have c44b1 : ((x163002_35.size : Int) != a2) = false := bne_eq_false_iff_eq.mpr c44
       clear c44
       replace H := Option.bind_eq_some_iff.mp H
       obtain ⟨t164, A450, H⟩ := H
       replace H : (if t164 = a3 then (some (a2, a3, x163002_35, true, (x163002_35.size : Int), x14_27, 0)) else ((thresherref19_New.f).bind fun bt165 => (some (bt165.1, bt165.2.1, bt165.2.2.1, bt165.2.2.2, 0, false, 8)))) = some (r1, r2, r3, r4, r5, r6, r7) := H
       have A45 := Aside0.mk A450; clear A450
       by_cases c46 : t164 = a3
       rotate_left
       ·
        rw [if_neg c46] at H
        have c46b0 : (t164 == a3) = false := beq_eq_false_iff_ne.mpr c46
        have c46b1 : (t164 != a3) = true := bne_iff_ne.mpr c46
        replace H := Option.bind_eq_some_iff.mp H
        obtain ⟨⟨t165, t166, t167, t168⟩, A550, H⟩ := H
        replace H : (some (t165, t166, t167, t168, 0, false, 8)) = some (r1, r2, r3, r4, r5, r6, r7) := H
        have A55 := Aside0.mk A550; clear A550
        simp only [Option.some.injEq, Prod.mk.injEq] at H
        obtain ⟨rfl, rfl, rfl, rfl, rfl, rfl, rfl⟩ := H
        have hnb56 := NB162_163.out; have hnc56 := NB163_162.out
        obtain ⟨hcz57_0, hcz57_1, hcz57_2, hcz57_3, hfz57_0, hfz57_1, hfz57_2, hfz57_3⟩ := blkall_4 BK162.out
        go_wp2_with (first | ((with_reducible refine gate_callee (f := 11) rfl ?_); refine goesL_ (some 74) rfl rfl Try.func11 (by kernel_rfl) rfl #[.string x163002_35] rfl (by (try simp only [List.map_toArray, List.map_cons, List.map_nil]); first | done | rfl | (simp only [List.length_drop, List.length_take]; rfl)) ?_; (with_reducible refine (thresherref1_Sum.calls kj35 x163002_35 t164 _ A45.out).mono ?_); rintro e w' ⟨rfl, ⟨nd, rfl⟩⟩; refine ⟨_, rfl, ?_⟩; (try (rw [drewN_self wc]; generalize hq_ : World.drewN wc _ = wc; have n0_ : Aside0 (wc.heap[gb162]? = some (.cells #[.int .i64 a2, .int .u32 a3, .string x163002_35, .bool false] 32 (0, 0))) := ⟨by rw [← hq_]; exact (blk_up BK162.out)⟩; have n1_ : Aside0 (wc.heap[gb163]? = some (.cells #[.int .i64 0, .int .u32 0, .string (⟨#[]⟩ : ByteArray), .bool false] 32 (0, 0))) := ⟨by rw [← hq_]; exact (blk_up BK163.out)⟩; have n2_ : Aside0 (Below w.heap.size w wc) := ⟨by rw [← hq_]; exact (by repeat (first | (with_reducible first | exact HB.out | apply below_alloc | apply pw_below_drewN | apply below_drew1 | refine below_setA ?_ ‹_›) | exact HB.out))⟩; clear BK162 BK163 HB hq_; have BK162 := n0_; have BK163 := n1_; have HB := n2_; clear n0_ n1_ n2_; obtain ⟨hcz57_0, hcz57_1, hcz57_2, hcz57_3, hfz57_0, hfz57_1, hfz57_2, hfz57_3⟩ := blkall_4 BK162.out))) | ((with_reducible refine gate_callee (f := 31) rfl ?_); refine goesL_ (some 77) rfl rfl Try.func31 (by kernel_rfl) rfl #[] rfl (by (try simp only [List.map_toArray, List.map_cons, List.map_nil]); first | done | rfl | (simp only [List.length_drop, List.length_take]; rfl)) ?_; (with_reducible refine (thresherref19_New.calls  t165 t166 t167 t168 _ A55.out).mono ?_); rintro e w58 ⟨rfl, hb⟩; refine ⟨_, rfl, ?_⟩; have n0_ := Aside0.mk (blk_below (blk_up BK162.out) hb); have n1_ := Aside0.mk (blk_below (blk_up BK163.out) hb); have n2_ := Aside0.mk (below_step (by repeat (first | (with_reducible first | exact HB.out | apply below_alloc | apply pw_below_drewN | apply below_drew1 | refine below_setA ?_ ‹_›) | exact HB.out)) hb); clear BK162; clear BK163; clear HB; have BK162 := n0_; have BK163 := n1_; have HB := n2_; clear n0_ n1_ n2_; (try clear hb); (try clear hb2); (try clear hk); (try clear hi); obtain ⟨hcz59_0, hcz59_1, hcz59_2, hcz59_3, hfz59_0, hfz59_1, hfz59_2, hfz59_3⟩ := blkall_4 BK163.out))
        refine bodyPost_ret (results_list (rs := [.cell 10 32, .tmp 11, .tmp 12, .tmp 13]) rfl (by simp) (.cell gb163 32 #[.int .i64 t165, .int .u32 t166, .string t167, .bool t168] (0, 0) _ rfl (by refine blk_up ?_; refine blk_put (cs := #[.int .i64 t165, .int .u32 t166, .string t167, .bool false]) ?_ 3 _ rfl; refine blk_up ?_; refine blk_put (cs := #[.int .i64 t165, .int .u32 t166, .string (⟨#[]⟩ : ByteArray), .bool false]) ?_ 2 _ rfl; refine blk_up ?_; refine blk_put (cs := #[.int .i64 t165, .int .u32 0, .string (⟨#[]⟩ : ByteArray), .bool false]) ?_ 1 _ rfl; refine blk_up ?_; refine blk_put (cs := #[.int .i64 0, .int .u32 0, .string (⟨#[]⟩ : ByteArray), .bool false]) ?_ 0 _ rfl; refine blk_up ?_; exact BK163.out) Try.underlying32 rfl (by kernel_rfl) (.tmp (.tmp (.tmp .nil))))) rfl ?_
        exact ⟨by first | rfl | (simp [errW_none, errW_some] <;> rfl) | (simp [*, errW_none, errW_some] <;> rfl), by repeat (first | (with_reducible first | exact HB.out | apply below_alloc | apply pw_below_drewN | apply below_drew1 | refine below_setA ?_ ‹_›) | exact HB.out)⟩
       rw [if_pos c46] at H
       have c46b0 : (t164 == a3) = true := beq_iff_eq.mpr c46
       have c46b1 : (t164 != a3) = false := bne_eq_false_iff_eq.mpr c46
       clear c46
       simp only [Option.some.injEq, Prod.mk.injEq] at H
       obtain ⟨rfl, rfl, rfl, rfl, rfl, rfl, rfl⟩ := H
       have hnb47 := NB162_163.out; have hnc47 := NB163_162.out
       obtain ⟨hcz48_0, hcz48_1, hcz48_2, hcz48_3, hfz48_0, hfz48_1, hfz48_2, hfz48_3⟩ := blkall_4 BK162.out
       try go_wp2_with (first | ((with_reducible refine gate_callee (f := 11) rfl ?_); refine goesL_ (some 74) rfl rfl Try.func11 (by kernel_rfl) rfl #[.string x163002_35] rfl (by (try simp only [List.map_toArray, List.map_cons, List.map_nil]); first | done | rfl | (simp only [List.length_drop, List.length_take]; rfl)) ?_; (with_reducible refine (thresherref1_Sum.calls kj35 x163002_35 t164 _ A45.out).mono ?_); rintro e w' ⟨rfl, ⟨nd, rfl⟩⟩; refine ⟨_, rfl, ?_⟩; (try (rw [drewN_self wc]; generalize hq_ : World.drewN wc _ = wc; have n0_ : Aside0 (wc.heap[gb162]? = some (.cells #[.int .i64 a2, .int .u32 a3, .string x163002_35, .bool false] 32 (0, 0))) := ⟨by rw [← hq_]; exact (blk_up BK162.out)⟩; have n1_ : Aside0 (wc.heap[gb163]? = some (.cells #[.int .i64 0, .int .u32 0, .string (⟨#[]⟩ : ByteArray), .bool false] 32 (0, 0))) := ⟨by rw [← hq_]; exact (blk_up BK163.out)⟩; have n2_ : Aside0 (Below w.heap.size w wc) := ⟨by rw [← hq_]; exact (by repeat (first | (with_reducible first | exact HB.out | apply below_alloc | apply pw_below_drewN | apply below_drew1 | refine below_setA ?_ ‹_›) | exact HB.out))⟩; clear BK162 BK163 HB hq_; have BK162 := n0_; have BK163 := n1_; have HB := n2_; clear n0_ n1_ n2_; obtain ⟨hcz48_0, hcz48_1, hcz48_2, hcz48_3, hfz48_0, hfz48_1, hfz48_2, hfz48_3⟩ := blkall_4 BK162.out))))
       have n0_ : Aside0 ((wc.setCell ⟨gb162, 3, none⟩ (.bool true)).heap[gb162]? = some (.cells #[.int .i64 a2, .int .u32 a3, .string x163002_35, .bool true] 32 (0, 0))) := ⟨by refine blk_up ?_; refine blk_put (cs := #[.int .i64 a2, .int .u32 a3, .string x163002_35, .bool false]) ?_ 3 _ rfl; refine blk_up ?_; exact BK162.out⟩
       have n1_ : Aside0 ((wc.setCell ⟨gb162, 3, none⟩ (.bool true)).heap[gb163]? = some (.cells #[.int .i64 0, .int .u32 0, .string (⟨#[]⟩ : ByteArray), .bool false] 32 (0, 0))) := ⟨by refine blk_up ?_; refine blk_far ?_ NB163_162.out _; refine blk_up ?_; exact BK163.out⟩
       have n2_ : Aside0 (Below w.heap.size w (wc.setCell ⟨gb162, 3, none⟩ (.bool true))) := ⟨by repeat (first | (with_reducible first | exact HB.out | apply below_alloc | apply pw_below_drewN | apply below_drew1 | refine below_setA ?_ ‹_›) | exact HB.out)⟩
       (try clear BK162)
       (try clear BK163)
       (try clear HB)
       generalize (wc.setCell ⟨gb162, 3, none⟩ (.bool true)) = w49 at n0_ n1_ n2_ ⊢
       have BK162 := n0_; have BK163 := n1_; have HB := n2_; clear n0_ n1_ n2_
       have n0_ := Aside0.mk (blk_drew BK162.out)
       have n1_ := Aside0.mk (blk_drew BK163.out)
       have n2_ := Aside0.mk (below_drew1 HB.out)
       clear BK162; clear BK163; clear HB; have BK162 := n0_; have BK163 := n1_; have HB := n2_; clear n0_ n1_ n2_
       refine start_ (n := 9) (S := fun w' => w'.cell? ⟨gb162, 0, none⟩ = some (.int .i64 a2) ∧ w'.cell? ⟨gb162, 1, none⟩ = some (.int .u32 a3) ∧ w'.cell? ⟨gb162, 2, none⟩ = some (.string x163002_35) ∧ w'.cell? ⟨gb162, 3, none⟩ = some (.bool true)) (ds := []) #[false, false, false, false, false, false, false, false, false] (by kernel_rfl) rfl rfl ⟨(blk_cell BK162.out 0).trans rfl, (blk_cell BK162.out 1).trans rfl, (blk_cell BK162.out 2).trans rfl, (blk_cell BK162.out 3).trans rfl⟩ (fun hHeld => ?_); refine with_tabW thresherref19_Take.tab13 thresherref19_Take.bits13 (fun HT_ HW_ => ?_)
       generalize w49.drew = w50 at BK162 BK163 HB hHeld ⊢
       refine pure_ (i := 1) (N := some 80) (v := ?_) (a' := ?_) #[false, true, false, false, false, false, false, false, false] rfl rfl (any_of HT_.out (by kernel_rfl)) (fun _ _ _ h => h) (Or.inl ⟨by rfl, ?_⟩) ?_ ?_
       rotate_left
       ·
        intro w'
        go_simp
        with_reducible rfl
       rotate_left
       ·
        simp only [Act.put, List.setIfInBounds_toArray, List.set_cons_zero, List.set_cons_succ, i64_w, i32_w]
        rfl
       refine pure_ (i := 4) (N := some 83) (v := ?_) (a' := ?_) #[false, true, false, false, true, false, false, false, false] rfl rfl (any_of HT_.out (by kernel_rfl)) (fun _ _ _ h => h) (Or.inl ⟨by rfl, ?_⟩) ?_ ?_
       rotate_left
       ·
        intro w'
        go_simp
        with_reducible rfl
       rotate_left
       ·
        simp only [Act.put, List.setIfInBounds_toArray, List.set_cons_zero, List.set_cons_succ, i64_w, i32_w]
        rfl
       refine take_ (i := 0) (N := some 79) (v := ?_) (a' := ?_) #[true, true, false, false, true, false, false, false, false] rfl rfl (take_ofW HT_.out HW_.out (by kernel_rfl)) (fun _ _ _ h => h) (Or.inl ⟨by rfl, ?_⟩) hHeld ?_ ?_
       rotate_left
       ·
        rintro w' ⟨s0, s1, s2, s3⟩
        go_simp
        with_reducible rfl
       rotate_left
       ·
        simp only [Act.put, List.setIfInBounds_toArray, List.set_cons_zero, List.set_cons_succ, i64_w, i32_w]
        rfl
       refine take_ (i := 2) (N := some 81) (v := ?_) (a' := ?_) #[true, true, true, false, true, false, false, false, false] rfl rfl (take_ofW HT_.out HW_.out (by kernel_rfl)) (fun _ _ _ h => h) (Or.inl ⟨by rfl, ?_⟩) hHeld ?_ ?_
       rotate_left
       ·
        rintro w' ⟨s0, s1, s2, s3⟩
        go_simp
        with_reducible rfl
       rotate_left
       ·
        simp only [Act.put, List.setIfInBounds_toArray, List.set_cons_zero, List.set_cons_succ, i64_w, i32_w]
        rfl
       refine pure_ (i := 3) (N := some 82) (v := ?_) (a' := ?_) #[true, true, true, true, true, false, false, false, false] rfl rfl (any_of HT_.out (by kernel_rfl)) (fun _ _ _ h => h) (Or.inl ⟨by rfl, ?_⟩) ?_ ?_
       rotate_left
       ·
        intro w'
        go_simp
        with_reducible rfl
       rotate_left
       ·
        simp only [Act.put, List.setIfInBounds_toArray, List.set_cons_zero, List.set_cons_succ, i64_w, i32_w]
        rfl
       refine one_ (i := 5) (N := none) #[true, true, true, true, true, true, false, false, false] rfl rfl (one_of HT_.out (by kernel_rfl)) (by decide) (fun K hK => ?_)
       have hs51 : w50.cell? ⟨gb163, 0, none⟩ = some (.int .i64 0) := (blk_cell BK163.out 0).trans rfl
       have hfs51 := blk_frozen BK163.out 0; have hns51_0 := NB162_163.out; have hms51_0 := NB163_162.out
       have hs52 : w50.cell? ⟨gb163, 1, none⟩ = some (.int .u32 0) := (blk_cell BK163.out 1).trans rfl
       have hfs52 := blk_frozen BK163.out 1; have hns52_0 := NB162_163.out; have hms52_0 := NB163_162.out
       have hs53 : w50.cell? ⟨gb163, 2, none⟩ = some (.string (⟨#[]⟩ : ByteArray)) := (blk_cell BK163.out 2).trans rfl
       have hfs53 := blk_frozen BK163.out 2; have hns53_0 := NB162_163.out; have hms53_0 := NB163_162.out
       have hs54 : w50.cell? ⟨gb163, 3, none⟩ = some (.bool false) := (blk_cell BK163.out 3).trans rfl
       have hfs54 := blk_frozen BK163.out 3; have hns54_0 := NB162_163.out; have hms54_0 := NB163_162.out
       refine skip_ (w1 := ?_) (by rfl) rfl ?_ ?_
       rotate_left
       ·
        go_simp
        rfl
       refine hK.out _ _ ⟨((cell_far (p := ⟨gb163, _, none⟩) NB162_163.out _).trans (((cell_far (p := ⟨gb163, _, none⟩) NB162_163.out _).trans (((cell_far (p := ⟨gb163, _, none⟩) NB162_163.out _).trans (((cell_far (p := ⟨gb163, _, none⟩) NB162_163.out _).trans (hHeld.1)))))))), ((cell_far (p := ⟨gb163, _, none⟩) NB162_163.out _).trans (((cell_far (p := ⟨gb163, _, none⟩) NB162_163.out _).trans (((cell_far (p := ⟨gb163, _, none⟩) NB162_163.out _).trans (((cell_far (p := ⟨gb163, _, none⟩) NB162_163.out _).trans (hHeld.2.1)))))))), ((cell_far (p := ⟨gb163, _, none⟩) NB162_163.out _).trans (((cell_far (p := ⟨gb163, _, none⟩) NB162_163.out _).trans (((cell_far (p := ⟨gb163, _, none⟩) NB162_163.out _).trans (((cell_far (p := ⟨gb163, _, none⟩) NB162_163.out _).trans (hHeld.2.2.1)))))))), ((cell_far (p := ⟨gb163, _, none⟩) NB162_163.out _).trans (((cell_far (p := ⟨gb163, _, none⟩) NB162_163.out _).trans (((cell_far (p := ⟨gb163, _, none⟩) NB162_163.out _).trans (((cell_far (p := ⟨gb163, _, none⟩) NB162_163.out _).trans (hHeld.2.2.2))))))))⟩ (fun hHeld => ?_)
       clear hK K
       refine pure_ (i := 6) (N := some 11) (v := ?_) (a' := ?_) #[true, true, true, true, true, true, true, false, false] rfl rfl (any_of HT_.out (by kernel_rfl)) (fun _ _ _ h => h) (Or.inl ⟨by rfl, ?_⟩) ?_ ?_
       rotate_left
       ·
        intro w'
        go_simp
        with_reducible rfl
       rotate_left
       ·
        simp only [Act.put, List.setIfInBounds_toArray, List.set_cons_zero, List.set_cons_succ, i64_w, i32_w]
        rfl
       refine pure_ (i := 7) (N := some 12) (v := ?_) (a' := ?_) #[true, true, true, true, true, true, true, true, false] rfl rfl (any_of HT_.out (by kernel_rfl)) (fun _ _ _ h => h) (Or.inl ⟨by rfl, ?_⟩) ?_ ?_
       rotate_left
       ·
        intro w'
        go_simp
        with_reducible rfl
       rotate_left
       ·
        simp only [Act.put, List.setIfInBounds_toArray, List.set_cons_zero, List.set_cons_succ, i64_w, i32_w]
        rfl
       refine pure_ (i := 8) (N := some 13) (v := ?_) (a' := ?_) #[true, true, true, true, true, true, true, true, true] rfl rfl (any_of HT_.out (by kernel_rfl)) (fun _ _ _ h => h) (Or.inl ⟨by rfl, ?_⟩) ?_ ?_
       rotate_left
       ·
        intro w'
        go_simp
        with_reducible rfl
       rotate_left
       ·
        simp only [Act.put, List.setIfInBounds_toArray, List.set_cons_zero, List.set_cons_succ, i64_w, i32_w]
        rfl
       refine done_ (done_of HT_.out (by kernel_rfl)) ?_
       try go_wp2
       refine bodyPost_ret (results_list (rs := [.cell 10 32, .tmp 11, .tmp 12, .tmp 13]) rfl (by simp) (.cell gb163 32 #[.int .i64 a2, .int .u32 a3, .string x163002_35, .bool true] (0, 0) _ rfl (by refine blk_up ?_; refine blk_put (cs := #[.int .i64 a2, .int .u32 a3, .string x163002_35, .bool false]) ?_ 3 _ rfl; refine blk_up ?_; refine blk_put (cs := #[.int .i64 a2, .int .u32 a3, .string (⟨#[]⟩ : ByteArray), .bool false]) ?_ 2 _ rfl; refine blk_up ?_; refine blk_put (cs := #[.int .i64 a2, .int .u32 0, .string (⟨#[]⟩ : ByteArray), .bool false]) ?_ 1 _ rfl; refine blk_up ?_; refine blk_put (cs := #[.int .i64 0, .int .u32 0, .string (⟨#[]⟩ : ByteArray), .bool false]) ?_ 0 _ rfl; refine blk_up ?_; exact BK163.out) Try.underlying32 rfl (by kernel_rfl) (.tmp (.tmp (.tmp .nil))))) rfl ?_
       exact ⟨by first | rfl | (simp [errW_none, errW_some] <;> rfl) | (simp [*, errW_none, errW_some] <;> rfl), by repeat (first | (with_reducible first | exact HB.out | apply below_alloc | apply pw_below_drewN | apply below_drew1 | refine below_setA ?_ ‹_›) | exact HB.out)⟩
/-! ### stream_Send: function 28 -/
def stream_Send.f (a0 : ByteArray) : Option (ByteArray × Int × Int × Int × Int) := (stream_Sends.f a0 0 0 1).bind fun t171 => (if t171 = true then (some (a0, 0, 0, 1, 0)) else (some ((⟨#[]⟩ : ByteArray), 0, 0, 0, 1)))
set_option maxHeartbeats 8000000 in
set_option maxRecDepth 100000 in
theorem stream_Send.calls (a0 : ByteArray) (r1 : ByteArray) (r2 : Int) (r3 : Int) (r4 : Int) (r5 : Int) (w : World) (h : stream_Send.f a0 = some (r1, r2, r3, r4, r5)) :
  Calls Try.prog 28 #[.string a0] w fun e w' => e = .returned (.tuple #[.agg #[.string r1, .int .i64 r2, .int .i64 r3, .int .i64 r4], .int .i64 r5]) ∧ Below w.heap.size w w' := by
 have hu30 := Try.underlying30
 have HB := Aside0.mk (Below.refl w.heap.size w)
 have H : ((stream_Sends.f a0 0 0 1).bind fun t171 => (if t171 = true then (some (a0, 0, 0, 1, 0)) else (some ((⟨#[]⟩ : ByteArray), 0, 0, 0, 1)))) = some (r1, r2, r3, r4, r5) := h
 clear h
 replace H := Option.bind_eq_some_iff.mp H
 obtain ⟨t171, A20, H⟩ := H
 replace H : (if t171 = true then (some (a0, 0, 0, 1, 0)) else (some ((⟨#[]⟩ : ByteArray), 0, 0, 0, 1))) = some (r1, r2, r3, r4, r5) := H
 have A2 := Aside0.mk A20; clear A20
 by_cases c3 : t171 = true
 ·
  subst c3
  have H1 : (some (a0, 0, 0, 1, 0)) = some (r1, r2, r3, r4, r5) := by rw [if_pos rfl] at H; exact H
  clear H; have H := H1; clear H1
  simp only [Option.some.injEq, Prod.mk.injEq] at H
  obtain ⟨rfl, rfl, rfl, rfl, rfl⟩ := H
  go_enter Try.func28, Try.ntmps28
  go_wp2_with (first | ((with_reducible refine gate_dst (N := 2) rfl ?_); refine box_event ?hg (N := 2) ?hd (cs := #[.string (⟨#[]⟩ : ByteArray), .int .i64 0, .int .i64 0, .int .i64 0]) (t := 30) ?hr ?_; (case hd => rfl); (case hg => rfl); (case hr => first | (go_simp; done) | (go_simp; rfl)); intro gb169 hg w4 hbox hb; have n0_ := Aside0.mk (below_step (by repeat (first | (with_reducible first | exact HB.out | apply below_alloc | apply pw_below_drewN | apply below_drew1) | exact HB.out)) hb); have n1_ := Aside0.mk (hbox); have n2_ := Aside0.mk ((by rw [hg]; exact (below_size (by repeat (first | (with_reducible first | exact HB.out | apply below_alloc | apply pw_below_drewN | apply below_drew1) | exact HB.out))) : w.heap.size ≤ gb169)); have n3_ := n2_; clear HB; have HB := n0_; have BK169 := n1_; have GW169 := n2_; have GE169 := n3_; clear n0_ n1_ n2_ n3_; clear hb hbox hg) | ((with_reducible refine gate_dst (N := 4) rfl ?_); refine box_event ?hg (N := 4) ?hd (cs := #[.string (⟨#[]⟩ : ByteArray), .int .i64 0, .int .i64 0, .int .i64 0]) (t := 30) ?hr ?_; (case hd => rfl); (case hg => rfl); (case hr => first | (go_simp; done) | (go_simp; rfl)); intro gb170 hg w5 hbox hb; have n0_ := Aside0.mk (blk_below (blk_up BK169.out) hb); have n1_ := Aside0.mk (below_step (by repeat (first | (with_reducible first | exact HB.out | apply below_alloc | apply pw_below_drewN | apply below_drew1 | refine below_setA ?_ ‹_›) | exact HB.out)) hb); have n2_ := Aside0.mk (hbox); have n3_ := Aside0.mk ((by rw [hg]; exact (below_size (by repeat (first | (with_reducible first | exact HB.out | apply below_alloc | apply pw_below_drewN | apply below_drew1 | refine below_setA ?_ ‹_›) | exact HB.out))) : w.heap.size ≤ gb170)); have n4_ := n3_; have n5_ := Aside0.mk ((by rw [hg]; exact Nat.ne_of_lt (blk_lt (blk_up BK169.out)) : gb169 ≠ gb170)); have n6_ := Aside0.mk ((by rw [hg]; exact Nat.ne_of_gt (blk_lt (blk_up BK169.out)) : gb170 ≠ gb169)); clear BK169; clear HB; have BK169 := n0_; have HB := n1_; have BK170 := n2_; have GW170 := n3_; have GE170 := n4_; have NB169_170 := n5_; have NB170_169 := n6_; clear n0_ n1_ n2_ n3_ n4_ n5_ n6_; clear hb hbox hg; have hnb6 := NB170_169.out; have hnc6 := NB169_170.out; obtain ⟨hcz7_0, hcz7_1, hcz7_2, hcz7_3, hfz7_0, hfz7_1, hfz7_2, hfz7_3⟩ := blkall_4 BK170.out) | ((with_reducible refine gate_callee (f := 35) rfl ?_); refine goesL_ (some 8) rfl rfl Try.func35 (by kernel_rfl) rfl #[.agg #[.string a0, .int .i64 0, .int .i64 0, .int .i64 1]] rfl (by (try simp only [List.map_toArray, List.map_cons, List.map_nil]); first | done | rfl | (simp only [List.length_drop, List.length_take]; rfl)) ?_; (with_reducible refine (stream_Sends.calls a0 0 0 1 true _ A2.out).mono ?_); rintro e w8 ⟨rfl, hb⟩; refine ⟨_, rfl, ?_⟩; have n0_ := Aside0.mk (blk_below (g := gb169) (o := .cells #[.string (⟨#[]⟩ : ByteArray), .int .i64 0, .int .i64 0, .int .i64 0] 30 (0, 0)) (by (with_reducible repeat (first | refine blk_drewN ?_ _ | refine blk_drew ?_ | refine blk_alloc ?_ _ | refine blk_far ?_ NB169_170.out _)); exact BK169.out) hb); have n1_ := Aside0.mk (blk_below (g := gb170) (o := .cells #[.string a0, .int .i64 0, .int .i64 0, .int .i64 1] 30 (0, 0)) (by refine blk_up ?_; refine blk_put (cs := #[.string a0, .int .i64 0, .int .i64 0, .int .i64 0]) ?_ 3 _ rfl; refine blk_up ?_; refine blk_put (cs := #[.string a0, .int .i64 0, .int .i64 0, .int .i64 0]) ?_ 2 _ rfl; refine blk_up ?_; refine blk_put (cs := #[.string a0, .int .i64 0, .int .i64 0, .int .i64 0]) ?_ 1 _ rfl; refine blk_up ?_; refine blk_put (cs := #[.string (⟨#[]⟩ : ByteArray), .int .i64 0, .int .i64 0, .int .i64 0]) ?_ 0 _ rfl; refine blk_up ?_; exact BK170.out) hb); have n2_ := Aside0.mk (below_step (by repeat (first | (with_reducible first | exact HB.out | apply below_alloc | apply pw_below_drewN | apply below_drew1 | refine below_setA ?_ ‹_›) | exact HB.out)) hb); clear BK169; clear BK170; clear HB; have BK169 := n0_; have BK170 := n1_; have HB := n2_; clear n0_ n1_ n2_; (try clear hb); (try clear hb2); (try clear hk); (try clear hi); obtain ⟨hcz9_0, hcz9_1, hcz9_2, hcz9_3, hfz9_0, hfz9_1, hfz9_2, hfz9_3⟩ := blkall_4 BK170.out; obtain ⟨hcz10_0, hcz10_1, hcz10_2, hcz10_3, hfz10_0, hfz10_1, hfz10_2, hfz10_3⟩ := blkall_4 BK169.out))
  refine bodyPost_ret (results_ct rfl _ _ gb169 30 #[.string a0, .int .i64 0, .int .i64 0, .int .i64 1] (0, 0) _ rfl (by refine blk_up ?_; refine blk_put (cs := #[.string a0, .int .i64 0, .int .i64 0, .int .i64 0]) ?_ 3 _ rfl; refine blk_up ?_; refine blk_put (cs := #[.string a0, .int .i64 0, .int .i64 0, .int .i64 0]) ?_ 2 _ rfl; refine blk_up ?_; refine blk_put (cs := #[.string a0, .int .i64 0, .int .i64 0, .int .i64 0]) ?_ 1 _ rfl; refine blk_up ?_; refine blk_put (cs := #[.string (⟨#[]⟩ : ByteArray), .int .i64 0, .int .i64 0, .int .i64 0]) ?_ 0 _ rfl; refine blk_up ?_; exact BK169.out) Try.underlying30 rfl (by kernel_rfl)) rfl ?_
  exact ⟨by first | rfl | (simp [errW_none, errW_some] <;> rfl) | (simp [*, errW_none, errW_some] <;> rfl), by repeat (first | (with_reducible first | exact HB.out | apply below_alloc | apply pw_below_drewN | apply below_drew1 | refine below_setA ?_ ‹_›) | exact HB.out)⟩
 replace c3 := Bool.eq_false_iff.mpr c3
 subst c3
 have H1 : (some ((⟨#[]⟩ : ByteArray), 0, 0, 0, 1)) = some (r1, r2, r3, r4, r5) := by rw [if_neg (show ¬ (false = true) by decide)] at H; exact H
 clear H; have H := H1; clear H1
 simp only [Option.some.injEq, Prod.mk.injEq] at H
 obtain ⟨rfl, rfl, rfl, rfl, rfl⟩ := H
 go_enter Try.func28, Try.ntmps28
 go_wp2_with (first | ((with_reducible refine gate_dst (N := 2) rfl ?_); refine box_event ?hg (N := 2) ?hd (cs := #[.string (⟨#[]⟩ : ByteArray), .int .i64 0, .int .i64 0, .int .i64 0]) (t := 30) ?hr ?_; (case hd => rfl); (case hg => rfl); (case hr => first | (go_simp; done) | (go_simp; rfl)); intro gb169 hg w11 hbox hb; have n0_ := Aside0.mk (below_step (by repeat (first | (with_reducible first | exact HB.out | apply below_alloc | apply pw_below_drewN | apply below_drew1) | exact HB.out)) hb); have n1_ := Aside0.mk (hbox); have n2_ := Aside0.mk ((by rw [hg]; exact (below_size (by repeat (first | (with_reducible first | exact HB.out | apply below_alloc | apply pw_below_drewN | apply below_drew1) | exact HB.out))) : w.heap.size ≤ gb169)); have n3_ := n2_; clear HB; have HB := n0_; have BK169 := n1_; have GW169 := n2_; have GE169 := n3_; clear n0_ n1_ n2_ n3_; clear hb hbox hg) | ((with_reducible refine gate_dst (N := 4) rfl ?_); refine box_event ?hg (N := 4) ?hd (cs := #[.string (⟨#[]⟩ : ByteArray), .int .i64 0, .int .i64 0, .int .i64 0]) (t := 30) ?hr ?_; (case hd => rfl); (case hg => rfl); (case hr => first | (go_simp; done) | (go_simp; rfl)); intro gb170 hg w12 hbox hb; have n0_ := Aside0.mk (blk_below (blk_up BK169.out) hb); have n1_ := Aside0.mk (below_step (by repeat (first | (with_reducible first | exact HB.out | apply below_alloc | apply pw_below_drewN | apply below_drew1 | refine below_setA ?_ ‹_›) | exact HB.out)) hb); have n2_ := Aside0.mk (hbox); have n3_ := Aside0.mk ((by rw [hg]; exact (below_size (by repeat (first | (with_reducible first | exact HB.out | apply below_alloc | apply pw_below_drewN | apply below_drew1 | refine below_setA ?_ ‹_›) | exact HB.out))) : w.heap.size ≤ gb170)); have n4_ := n3_; have n5_ := Aside0.mk ((by rw [hg]; exact Nat.ne_of_lt (blk_lt (blk_up BK169.out)) : gb169 ≠ gb170)); have n6_ := Aside0.mk ((by rw [hg]; exact Nat.ne_of_gt (blk_lt (blk_up BK169.out)) : gb170 ≠ gb169)); clear BK169; clear HB; have BK169 := n0_; have HB := n1_; have BK170 := n2_; have GW170 := n3_; have GE170 := n4_; have NB169_170 := n5_; have NB170_169 := n6_; clear n0_ n1_ n2_ n3_ n4_ n5_ n6_; clear hb hbox hg; have hnb13 := NB170_169.out; have hnc13 := NB169_170.out; obtain ⟨hcz14_0, hcz14_1, hcz14_2, hcz14_3, hfz14_0, hfz14_1, hfz14_2, hfz14_3⟩ := blkall_4 BK170.out) | ((with_reducible refine gate_callee (f := 35) rfl ?_); refine goesL_ (some 8) rfl rfl Try.func35 (by kernel_rfl) rfl #[.agg #[.string a0, .int .i64 0, .int .i64 0, .int .i64 1]] rfl (by (try simp only [List.map_toArray, List.map_cons, List.map_nil]); first | done | rfl | (simp only [List.length_drop, List.length_take]; rfl)) ?_; (with_reducible refine (stream_Sends.calls a0 0 0 1 false _ A2.out).mono ?_); rintro e w15 ⟨rfl, hb⟩; refine ⟨_, rfl, ?_⟩; have n0_ := Aside0.mk (blk_below (g := gb169) (o := .cells #[.string (⟨#[]⟩ : ByteArray), .int .i64 0, .int .i64 0, .int .i64 0] 30 (0, 0)) (by (with_reducible repeat (first | refine blk_drewN ?_ _ | refine blk_drew ?_ | refine blk_alloc ?_ _ | refine blk_far ?_ NB169_170.out _)); exact BK169.out) hb); have n1_ := Aside0.mk (blk_below (g := gb170) (o := .cells #[.string a0, .int .i64 0, .int .i64 0, .int .i64 1] 30 (0, 0)) (by refine blk_up ?_; refine blk_put (cs := #[.string a0, .int .i64 0, .int .i64 0, .int .i64 0]) ?_ 3 _ rfl; refine blk_up ?_; refine blk_put (cs := #[.string a0, .int .i64 0, .int .i64 0, .int .i64 0]) ?_ 2 _ rfl; refine blk_up ?_; refine blk_put (cs := #[.string a0, .int .i64 0, .int .i64 0, .int .i64 0]) ?_ 1 _ rfl; refine blk_up ?_; refine blk_put (cs := #[.string (⟨#[]⟩ : ByteArray), .int .i64 0, .int .i64 0, .int .i64 0]) ?_ 0 _ rfl; refine blk_up ?_; exact BK170.out) hb); have n2_ := Aside0.mk (below_step (by repeat (first | (with_reducible first | exact HB.out | apply below_alloc | apply pw_below_drewN | apply below_drew1 | refine below_setA ?_ ‹_›) | exact HB.out)) hb); clear BK169; clear BK170; clear HB; have BK169 := n0_; have BK170 := n1_; have HB := n2_; clear n0_ n1_ n2_; (try clear hb); (try clear hb2); (try clear hk); (try clear hi); obtain ⟨hcz16_0, hcz16_1, hcz16_2, hcz16_3, hfz16_0, hfz16_1, hfz16_2, hfz16_3⟩ := blkall_4 BK169.out))
 refine bodyPost_ret (results_ct rfl _ _ gb169 30 #[.string (⟨#[]⟩ : ByteArray), .int .i64 0, .int .i64 0, .int .i64 0] (0, 0) _ rfl (by refine blk_up ?_; refine blk_put (cs := #[.string (⟨#[]⟩ : ByteArray), .int .i64 0, .int .i64 0, .int .i64 0]) ?_ 3 _ rfl; refine blk_up ?_; refine blk_put (cs := #[.string (⟨#[]⟩ : ByteArray), .int .i64 0, .int .i64 0, .int .i64 0]) ?_ 2 _ rfl; refine blk_up ?_; refine blk_put (cs := #[.string (⟨#[]⟩ : ByteArray), .int .i64 0, .int .i64 0, .int .i64 0]) ?_ 1 _ rfl; refine blk_up ?_; refine blk_put (cs := #[.string (⟨#[]⟩ : ByteArray), .int .i64 0, .int .i64 0, .int .i64 0]) ?_ 0 _ rfl; refine blk_up ?_; exact BK169.out) Try.underlying30 rfl (by kernel_rfl)) rfl ?_
 exact ⟨by first | rfl | (simp [errW_none, errW_some] <;> rfl) | (simp [*, errW_none, errW_some] <;> rfl), by repeat (first | (with_reducible first | exact HB.out | apply below_alloc | apply pw_below_drewN | apply below_drew1 | refine below_setA ?_ ‹_›) | exact HB.out)⟩
/-! ### thresherref19_Send: function 29 -/
def thresherref19_Send.f (a0 : ByteArray) : Option (ByteArray × Int × Int × Int) := some (a0, 0, 0, 1)
set_option maxHeartbeats 8000000 in
set_option maxRecDepth 100000 in
theorem thresherref19_Send.calls (a0 : ByteArray) (r1 : ByteArray) (r2 : Int) (r3 : Int) (r4 : Int) (w : World) (h : thresherref19_Send.f a0 = some (r1, r2, r3, r4)) :
  Calls Try.prog 29 #[.string a0] w fun e w' => e = .returned (.agg #[.string r1, .int .i64 r2, .int .i64 r3, .int .i64 r4]) ∧ Below w.heap.size w w' := by
 have hu30 := Try.underlying30
 have HB := Aside0.mk (Below.refl w.heap.size w)
 have H : (some (a0, 0, 0, 1)) = some (r1, r2, r3, r4) := h
 clear h
 simp only [Option.some.injEq, Prod.mk.injEq] at H
 obtain ⟨rfl, rfl, rfl, rfl⟩ := H
 go_enter Try.func29, Try.ntmps29
 go_wp2_with (first | ((with_reducible refine gate_dst (N := 2) rfl ?_); refine box_event ?hg (N := 2) ?hd (cs := #[.string (⟨#[]⟩ : ByteArray), .int .i64 0, .int .i64 0, .int .i64 0]) (t := 30) ?hr ?_; (case hd => rfl); (case hg => rfl); (case hr => first | (go_simp; done) | (go_simp; rfl)); intro gb172 hg w2 hbox hb; have n0_ := Aside0.mk (below_step (by repeat (first | (with_reducible first | exact HB.out | apply below_alloc | apply pw_below_drewN | apply below_drew1) | exact HB.out)) hb); have n1_ := Aside0.mk (hbox); have n2_ := Aside0.mk ((by rw [hg]; exact (below_size (by repeat (first | (with_reducible first | exact HB.out | apply below_alloc | apply pw_below_drewN | apply below_drew1) | exact HB.out))) : w.heap.size ≤ gb172)); have n3_ := n2_; clear HB; have HB := n0_; have BK172 := n1_; have GW172 := n2_; have GE172 := n3_; clear n0_ n1_ n2_ n3_; clear hb hbox hg; obtain ⟨hcz3_0, hcz3_1, hcz3_2, hcz3_3, hfz3_0, hfz3_1, hfz3_2, hfz3_3⟩ := blkall_4 BK172.out))
 refine bodyPost_ret (results_cell_row rfl _ _ gb172 30 #[.string a0, .int .i64 0, .int .i64 0, .int .i64 1] (0, 0) _ rfl (by refine blk_up ?_; refine blk_put (cs := #[.string a0, .int .i64 0, .int .i64 0, .int .i64 0]) ?_ 3 _ rfl; refine blk_up ?_; refine blk_put (cs := #[.string a0, .int .i64 0, .int .i64 0, .int .i64 0]) ?_ 2 _ rfl; refine blk_up ?_; refine blk_put (cs := #[.string a0, .int .i64 0, .int .i64 0, .int .i64 0]) ?_ 1 _ rfl; refine blk_up ?_; refine blk_put (cs := #[.string (⟨#[]⟩ : ByteArray), .int .i64 0, .int .i64 0, .int .i64 0]) ?_ 0 _ rfl; refine blk_up ?_; exact BK172.out) Try.underlying30 rfl (by kernel_rfl)) rfl ?_
 exact ⟨by first | rfl | (simp [errW_none, errW_some] <;> rfl) | (simp [*, errW_none, errW_some] <;> rfl), by repeat (first | (with_reducible first | exact HB.out | apply below_alloc | apply pw_below_drewN | apply below_drew1 | refine below_setA ?_ ‹_›) | exact HB.out)⟩
/-! ### thresherlaw20_wakes: function 32 -/
def thresherlaw20_wakes.f (k : Nat)  : Option (Bool) := if 100 ≤ 281474976710656 then ((stream_Send.f (strOfNums (List.replicate 100 0))).bind fun bt176 => ((stream_Tick.f k bt176.1 bt176.2.1 bt176.2.2.1 bt176.2.2.2.1).bind fun bt182 => ((thresherlaw20_num.f bt176.2.2.2.2).bind fun t191 => (if t191 = 0 then ((thresherlaw20_num.f bt182.2.2.2.2.2).bind fun t192 => (if t192 = 0 then ((thresherref0_EqNumbers.f k bt182.2.2.2.2.1 (([0, 48, 96] : List Int))).bind fun t196 => (some t196)) else (some false))) else (some false))))) else (none)
set_option maxHeartbeats 8000000 in
set_option maxRecDepth 100000 in
theorem thresherlaw20_wakes.calls (k : Nat)  (r : Bool) (w : World) (h : thresherlaw20_wakes.f k  = some r) :
  Calls Try.prog 32 #[] w fun e w' => e = .returned (.bool r) ∧ Below w.heap.size w w' := by
 have hu30 := Try.underlying30
 have HB := Aside0.mk (Below.refl w.heap.size w)
 have H : (if 100 ≤ 281474976710656 then ((stream_Send.f (strOfNums (List.replicate 100 0))).bind fun bt176 => ((stream_Tick.f k bt176.1 bt176.2.1 bt176.2.2.1 bt176.2.2.2.1).bind fun bt182 => ((thresherlaw20_num.f bt176.2.2.2.2).bind fun t191 => (if t191 = 0 then ((thresherlaw20_num.f bt182.2.2.2.2.2).bind fun t192 => (if t192 = 0 then ((thresherref0_EqNumbers.f k bt182.2.2.2.2.1 (([0, 48, 96] : List Int))).bind fun t196 => (some t196)) else (some false))) else (some false))))) else (none)) = some r := h
 clear h
 by_cases c1 : 100 ≤ 281474976710656
 rotate_left
 ·
  rw [if_neg c1] at H
  exact absurd H (by simp)
 rw [if_pos c1] at H
 have c1b0 := eq_true c1
 have c1b1 : decide (100 ≤ 281474976710656) = true := decide_eq_true c1
 clear c1
 obtain ⟨y173, hy173⟩ : ∃ y_ : List Int, y_ = (List.replicate 100 0) := ⟨_, rfl⟩
 replace H : ((stream_Send.f (strOfNums y173)).bind fun bt176 => ((stream_Tick.f k bt176.1 bt176.2.1 bt176.2.2.1 bt176.2.2.2.1).bind fun bt182 => ((thresherlaw20_num.f bt176.2.2.2.2).bind fun t191 => (if t191 = 0 then ((thresherlaw20_num.f bt182.2.2.2.2.2).bind fun t192 => (if t192 = 0 then ((thresherref0_EqNumbers.f k bt182.2.2.2.2.1 (([0, 48, 96] : List Int))).bind fun t196 => (some t196)) else (some false))) else (some false))))) = some r := by first | (rw [hy173]; with_reducible exact H) | (have H2_ := (Option.bind_some _ _).symm.trans H; rw [hy173]; with_reducible exact H2_) | (have H2_ := (Option.bind_some _ _).symm.trans H; with_reducible exact H2_) | with_reducible exact H | (rw [hy173]; exact H) | exact H
 have Ny173 := Aside0.mk hy173; clear hy173
 replace H := Option.bind_eq_some_iff.mp H
 obtain ⟨⟨t176, t177, t178, t179, t180⟩, A20, H⟩ := H
 replace H : ((stream_Tick.f k t176 t177 t178 t179).bind fun bt182 => ((thresherlaw20_num.f t180).bind fun t191 => (if t191 = 0 then ((thresherlaw20_num.f bt182.2.2.2.2.2).bind fun t192 => (if t192 = 0 then ((thresherref0_EqNumbers.f k bt182.2.2.2.2.1 (([0, 48, 96] : List Int))).bind fun t196 => (some t196)) else (some false))) else (some false)))) = some r := H
 have A2 := Aside0.mk A20; clear A20
 replace H := Option.bind_eq_some_iff.mp H
 obtain ⟨⟨t182, t183, t184, t185, t186, t189⟩, A30, H⟩ := H
 replace H : ((thresherlaw20_num.f t180).bind fun t191 => (if t191 = 0 then ((thresherlaw20_num.f t189).bind fun t192 => (if t192 = 0 then ((thresherref0_EqNumbers.f k t186 (([0, 48, 96] : List Int))).bind fun t196 => (some t196)) else (some false))) else (some false))) = some r := H
 have A3 := Aside0.mk A30; clear A30
 replace H := Option.bind_eq_some_iff.mp H
 obtain ⟨t191, A40, H⟩ := H
 replace H : (if t191 = 0 then ((thresherlaw20_num.f t189).bind fun t192 => (if t192 = 0 then ((thresherref0_EqNumbers.f k t186 (([0, 48, 96] : List Int))).bind fun t196 => (some t196)) else (some false))) else (some false)) = some r := H
 have A4 := Aside0.mk A40; clear A40
 by_cases c5 : t191 = 0
 rotate_left
 ·
  rw [if_neg c5] at H
  have c5b0 : (t191 == 0) = false := beq_eq_false_iff_ne.mpr c5
  have c5b1 : (t191 != 0) = true := bne_iff_ne.mpr c5
  obtain rfl := Option.some.inj H
  go_enter Try.func32, Try.ntmps32
  go_wp2_with (first | ((with_reducible refine gate_dst (N := 7) rfl ?_); (try (refine gate_guard (by rfl) ?_; dsimp only)); refine Kd.R_make (Kd.int .u8) _ 5 rfl (N := 7) rfl 27 _ _ rfl 100 rfl rfl Try.underlying27 (.int .u8 0) 1 info5 rfl (by decide) (by omega) 0 (ok := fun _ => True) (okp := fun _ => True) rfl (fun _ hk => hk) trivial (by omega) (by omega) (Below.refl _ _) (Nat.le_refl _) ?_; intro v174 w33 ho34 hb hg_ hnew_; clear hg_ hnew_; (first | rw [← Ny173.out] at ho34 | (simp only [Int.reduceToNat] at ho34; rw [← Ny173.out] at ho34)); have n0_ := Aside0.mk (Kd.R_lower ho34 (below_size (by repeat (first | (with_reducible first | exact HB.out | apply below_alloc | apply pw_below_drewN | apply below_drew1) | exact HB.out)))); have n1_ := Aside0.mk (below_step (by repeat (first | (with_reducible first | exact HB.out | apply below_alloc | apply pw_below_drewN | apply below_drew1) | exact HB.out)) hb); clear HB; have HO175 := n0_; have HB := n1_; clear n0_ n1_; clear hb ho34; have hcv35 := own_string (P := Try.prog) Try.underlying27 Try.underlying5 Try.underlying9 (Kd.own_of_R HO175.out)) | ((with_reducible refine gate_callee (f := 28) rfl ?_); refine goesL_ (some 9) rfl rfl Try.func28 (by kernel_rfl) rfl #[.string (strOfNums y173)] rfl (by (try simp only [List.map_toArray, List.map_cons, List.map_nil]); first | done | rfl | (simp only [List.length_drop, List.length_take]; rfl)) ?_; (with_reducible refine (stream_Send.calls (strOfNums y173) t176 t177 t178 t179 t180 _ A2.out).mono ?_); rintro e w36 ⟨rfl, hb⟩; refine ⟨_, rfl, ?_⟩; have n0_ := Aside0.mk (Kd.R_below (by (with_reducible repeat (first | apply Kd.R_alloc | apply Kd.R_drewN | apply Kd.R_drew)); exact HO175.out) hb); have n1_ := Aside0.mk (below_step (by repeat (first | (with_reducible first | exact HB.out | apply below_alloc | apply pw_below_drewN | apply below_drew1) | exact HB.out)) hb); clear HO175; clear HB; have HO175 := n0_; have HB := n1_; clear n0_ n1_; (try clear hb); (try clear hb2); (try clear hk); (try clear hi)) | ((with_reducible refine gate_dst (N := 1) rfl ?_); (try (refine gate_guard (by rfl) ?_; dsimp only)); refine box_event ?hg (N := 1) ?hd (cs := #[.string (⟨#[]⟩ : ByteArray), .int .i64 0, .int .i64 0, .int .i64 0]) (t := 30) ?hr ?_; (case hd => rfl); (case hg => rfl); (case hr => first | (go_simp; done) | (go_simp; rfl)); intro gb181 hg w37 hbox hb; have n0_ := Aside0.mk (Kd.R_below (by (with_reducible repeat (first | apply Kd.R_alloc | apply Kd.R_drewN | apply Kd.R_drew)); exact HO175.out) hb); have n1_ := Aside0.mk (below_step (by repeat (first | (with_reducible first | exact HB.out | apply below_alloc | apply pw_below_drewN | apply below_drew1) | exact HB.out)) hb); have n2_ := Aside0.mk (hbox); have n3_ := Aside0.mk ((by rw [hg]; exact (below_size (by repeat (first | (with_reducible first | exact HB.out | apply below_alloc | apply pw_below_drewN | apply below_drew1) | exact HB.out))) : w.heap.size ≤ gb181)); have n4_ := n3_; clear HO175; clear HB; have HO175 := n0_; have HB := n1_; have BK181 := n2_; have GW181 := n3_; have GE181 := n4_; clear n0_ n1_ n2_ n3_ n4_; clear hb hbox hg; obtain ⟨hcz38_0, hcz38_1, hcz38_2, hcz38_3, hfz38_0, hfz38_1, hfz38_2, hfz38_3⟩ := blkall_4 BK181.out) | ((with_reducible refine gate_callee (f := 16) rfl ?_); refine goesL_ (some 14) rfl rfl Try.func16 (by kernel_rfl) rfl #[.agg #[.string t176, .int .i64 t177, .int .i64 t178, .int .i64 t179]] rfl (by (try simp only [List.map_toArray, List.map_cons, List.map_nil]); first | done | rfl | (simp only [List.length_drop, List.length_take]; rfl)) ?_; (with_reducible refine (stream_Tick.calls k t176 t177 t178 t179 t182 t183 t184 t185 t186 t189 _ A3.out).mono ?_); rintro e w39 ⟨v187, rfl, ho0, hb⟩; refine ⟨_, rfl, ?_⟩; have n0_ := Aside0.mk (Kd.R_below (by (with_reducible repeat (first | apply Kd.R_alloc | apply Kd.R_drewN | apply Kd.R_drew)); exact (Kd.R_mono (Kd.R_far (p := ⟨gb181, 3, none⟩) (Kd.R_far (p := ⟨gb181, 2, none⟩) (Kd.R_far (p := ⟨gb181, 1, none⟩) (Kd.R_far (p := ⟨gb181, 0, none⟩) (Kd.R_types HO175.out BK181.out (by decide)) (fun _ hk => hk.2) (.string t176)) (fun _ hk => hk.2) (.int .i64 t177)) (fun _ hk => hk.2) (.int .i64 t178)) (fun _ hk => hk.2) (.int .i64 t179)) (fun _ h_ => h_.1))) hb); have n1_ := Aside0.mk (Kd.R_lower ho0 (below_size (by repeat (first | (with_reducible first | exact HB.out | apply below_alloc | apply pw_below_drewN | apply below_drew1 | refine below_setA ?_ ‹_›) | exact HB.out)))); have n2_ := Aside0.mk (blk_below (g := gb181) (o := .cells #[.string t176, .int .i64 t177, .int .i64 t178, .int .i64 t179] 30 (0, 0)) (by refine blk_up ?_; refine blk_put (cs := #[.string t176, .int .i64 t177, .int .i64 t178, .int .i64 0]) ?_ 3 _ rfl; refine blk_up ?_; refine blk_put (cs := #[.string t176, .int .i64 t177, .int .i64 0, .int .i64 0]) ?_ 2 _ rfl; refine blk_up ?_; refine blk_put (cs := #[.string t176, .int .i64 0, .int .i64 0, .int .i64 0]) ?_ 1 _ rfl; refine blk_up ?_; refine blk_put (cs := #[.string (⟨#[]⟩ : ByteArray), .int .i64 0, .int .i64 0, .int .i64 0]) ?_ 0 _ rfl; refine blk_up ?_; exact BK181.out) hb); have n3_ := Aside0.mk (below_step (by repeat (first | (with_reducible first | exact HB.out | apply below_alloc | apply pw_below_drewN | apply below_drew1 | refine below_setA ?_ ‹_›) | exact HB.out)) hb); clear HO175; clear BK181; clear HB; have HO175 := n0_; have HO188 := n1_; have BK181 := n2_; have HB := n3_; clear n0_ n1_ n2_ n3_; (try clear hb); (try clear hb2); (try clear hk); (try clear hi); (try clear ho0)) | ((with_reducible refine gate_dst (N := 3) rfl ?_); (try (refine gate_guard (by rfl) ?_; dsimp only)); refine box_event ?hg (N := 3) ?hd (cs := #[.string (⟨#[]⟩ : ByteArray), .int .i64 0, .int .i64 0, .int .i64 0]) (t := 30) ?hr ?_; (case hd => rfl); (case hg => rfl); (case hr => first | (go_simp; done) | (go_simp; rfl)); intro gb190 hg w40 hbox hb; have n0_ := Aside0.mk (Kd.R_below (by (with_reducible repeat (first | apply Kd.R_alloc | apply Kd.R_drewN | apply Kd.R_drew)); exact HO175.out) hb); have n1_ := Aside0.mk (Kd.R_below (by (with_reducible repeat (first | apply Kd.R_alloc | apply Kd.R_drewN | apply Kd.R_drew)); exact HO188.out) hb); have n2_ := Aside0.mk (blk_below (blk_up BK181.out) hb); have n3_ := Aside0.mk (below_step (by repeat (first | (with_reducible first | exact HB.out | apply below_alloc | apply pw_below_drewN | apply below_drew1 | refine below_setA ?_ ‹_›) | exact HB.out)) hb); have n4_ := Aside0.mk (hbox); have n5_ := Aside0.mk ((by rw [hg]; exact (below_size (by repeat (first | (with_reducible first | exact HB.out | apply below_alloc | apply pw_below_drewN | apply below_drew1 | refine below_setA ?_ ‹_›) | exact HB.out))) : w.heap.size ≤ gb190)); have n6_ := n5_; have n7_ := Aside0.mk ((by rw [hg]; exact Nat.ne_of_lt (blk_lt (blk_up BK181.out)) : gb181 ≠ gb190)); have n8_ := Aside0.mk ((by rw [hg]; exact Nat.ne_of_gt (blk_lt (blk_up BK181.out)) : gb190 ≠ gb181)); clear HO175; clear HO188; clear BK181; clear HB; have HO175 := n0_; have HO188 := n1_; have BK181 := n2_; have HB := n3_; have BK190 := n4_; have GW190 := n5_; have GE190 := n6_; have NB181_190 := n7_; have NB190_181 := n8_; clear n0_ n1_ n2_ n3_ n4_ n5_ n6_ n7_ n8_; clear hb hbox hg; have hnb41 := NB190_181.out; have hnc41 := NB181_190.out; obtain ⟨hcz42_0, hcz42_1, hcz42_2, hcz42_3, hfz42_0, hfz42_1, hfz42_2, hfz42_3⟩ := blkall_4 BK190.out) | ((with_reducible refine gate_callee (f := 18) rfl ?_); refine goesL_ (some 19) rfl rfl Try.func18 (by kernel_rfl) rfl #[.int .i64 t180] rfl (by (try simp only [List.map_toArray, List.map_cons, List.map_nil]); first | done | rfl | (simp only [List.length_drop, List.length_take]; rfl)) ?_; (with_reducible refine (thresherlaw20_num.calls t180 t191 _ A4.out).mono ?_); rintro e w' ⟨rfl, ⟨nd, rfl⟩⟩; refine ⟨_, rfl, ?_⟩))
  go_ret
  exact ⟨by first | rfl | (simp [errW_none, errW_some] <;> rfl) | (simp [*, errW_none, errW_some] <;> rfl), by repeat (first | (with_reducible first | exact HB.out | apply below_alloc | apply pw_below_drewN | apply below_drew1 | refine below_setA ?_ ‹_›) | exact HB.out)⟩
 rw [if_pos c5] at H
 have c5b0 : (t191 == 0) = true := beq_iff_eq.mpr c5
 have c5b1 : (t191 != 0) = false := bne_eq_false_iff_eq.mpr c5
 clear c5
 replace H := Option.bind_eq_some_iff.mp H
 obtain ⟨t192, A60, H⟩ := H
 replace H : (if t192 = 0 then ((thresherref0_EqNumbers.f k t186 (([0, 48, 96] : List Int))).bind fun t196 => (some t196)) else (some false)) = some r := H
 have A6 := Aside0.mk A60; clear A60
 by_cases c7 : t192 = 0
 rotate_left
 ·
  rw [if_neg c7] at H
  have c7b0 : (t192 == 0) = false := beq_eq_false_iff_ne.mpr c7
  have c7b1 : (t192 != 0) = true := bne_iff_ne.mpr c7
  obtain rfl := Option.some.inj H
  go_enter Try.func32, Try.ntmps32
  go_wp2_with (first | ((with_reducible refine gate_dst (N := 7) rfl ?_); (try (refine gate_guard (by rfl) ?_; dsimp only)); refine Kd.R_make (Kd.int .u8) _ 5 rfl (N := 7) rfl 27 _ _ rfl 100 rfl rfl Try.underlying27 (.int .u8 0) 1 info5 rfl (by decide) (by omega) 0 (ok := fun _ => True) (okp := fun _ => True) rfl (fun _ hk => hk) trivial (by omega) (by omega) (Below.refl _ _) (Nat.le_refl _) ?_; intro v174 w23 ho24 hb hg_ hnew_; clear hg_ hnew_; (first | rw [← Ny173.out] at ho24 | (simp only [Int.reduceToNat] at ho24; rw [← Ny173.out] at ho24)); have n0_ := Aside0.mk (Kd.R_lower ho24 (below_size (by repeat (first | (with_reducible first | exact HB.out | apply below_alloc | apply pw_below_drewN | apply below_drew1) | exact HB.out)))); have n1_ := Aside0.mk (below_step (by repeat (first | (with_reducible first | exact HB.out | apply below_alloc | apply pw_below_drewN | apply below_drew1) | exact HB.out)) hb); clear HB; have HO175 := n0_; have HB := n1_; clear n0_ n1_; clear hb ho24; have hcv25 := own_string (P := Try.prog) Try.underlying27 Try.underlying5 Try.underlying9 (Kd.own_of_R HO175.out)) | ((with_reducible refine gate_callee (f := 28) rfl ?_); refine goesL_ (some 9) rfl rfl Try.func28 (by kernel_rfl) rfl #[.string (strOfNums y173)] rfl (by (try simp only [List.map_toArray, List.map_cons, List.map_nil]); first | done | rfl | (simp only [List.length_drop, List.length_take]; rfl)) ?_; (with_reducible refine (stream_Send.calls (strOfNums y173) t176 t177 t178 t179 t180 _ A2.out).mono ?_); rintro e w26 ⟨rfl, hb⟩; refine ⟨_, rfl, ?_⟩; have n0_ := Aside0.mk (Kd.R_below (by (with_reducible repeat (first | apply Kd.R_alloc | apply Kd.R_drewN | apply Kd.R_drew)); exact HO175.out) hb); have n1_ := Aside0.mk (below_step (by repeat (first | (with_reducible first | exact HB.out | apply below_alloc | apply pw_below_drewN | apply below_drew1) | exact HB.out)) hb); clear HO175; clear HB; have HO175 := n0_; have HB := n1_; clear n0_ n1_; (try clear hb); (try clear hb2); (try clear hk); (try clear hi)) | ((with_reducible refine gate_dst (N := 1) rfl ?_); (try (refine gate_guard (by rfl) ?_; dsimp only)); refine box_event ?hg (N := 1) ?hd (cs := #[.string (⟨#[]⟩ : ByteArray), .int .i64 0, .int .i64 0, .int .i64 0]) (t := 30) ?hr ?_; (case hd => rfl); (case hg => rfl); (case hr => first | (go_simp; done) | (go_simp; rfl)); intro gb181 hg w27 hbox hb; have n0_ := Aside0.mk (Kd.R_below (by (with_reducible repeat (first | apply Kd.R_alloc | apply Kd.R_drewN | apply Kd.R_drew)); exact HO175.out) hb); have n1_ := Aside0.mk (below_step (by repeat (first | (with_reducible first | exact HB.out | apply below_alloc | apply pw_below_drewN | apply below_drew1) | exact HB.out)) hb); have n2_ := Aside0.mk (hbox); have n3_ := Aside0.mk ((by rw [hg]; exact (below_size (by repeat (first | (with_reducible first | exact HB.out | apply below_alloc | apply pw_below_drewN | apply below_drew1) | exact HB.out))) : w.heap.size ≤ gb181)); have n4_ := n3_; clear HO175; clear HB; have HO175 := n0_; have HB := n1_; have BK181 := n2_; have GW181 := n3_; have GE181 := n4_; clear n0_ n1_ n2_ n3_ n4_; clear hb hbox hg; obtain ⟨hcz28_0, hcz28_1, hcz28_2, hcz28_3, hfz28_0, hfz28_1, hfz28_2, hfz28_3⟩ := blkall_4 BK181.out) | ((with_reducible refine gate_callee (f := 16) rfl ?_); refine goesL_ (some 14) rfl rfl Try.func16 (by kernel_rfl) rfl #[.agg #[.string t176, .int .i64 t177, .int .i64 t178, .int .i64 t179]] rfl (by (try simp only [List.map_toArray, List.map_cons, List.map_nil]); first | done | rfl | (simp only [List.length_drop, List.length_take]; rfl)) ?_; (with_reducible refine (stream_Tick.calls k t176 t177 t178 t179 t182 t183 t184 t185 t186 t189 _ A3.out).mono ?_); rintro e w29 ⟨v187, rfl, ho0, hb⟩; refine ⟨_, rfl, ?_⟩; have n0_ := Aside0.mk (Kd.R_below (by (with_reducible repeat (first | apply Kd.R_alloc | apply Kd.R_drewN | apply Kd.R_drew)); exact (Kd.R_mono (Kd.R_far (p := ⟨gb181, 3, none⟩) (Kd.R_far (p := ⟨gb181, 2, none⟩) (Kd.R_far (p := ⟨gb181, 1, none⟩) (Kd.R_far (p := ⟨gb181, 0, none⟩) (Kd.R_types HO175.out BK181.out (by decide)) (fun _ hk => hk.2) (.string t176)) (fun _ hk => hk.2) (.int .i64 t177)) (fun _ hk => hk.2) (.int .i64 t178)) (fun _ hk => hk.2) (.int .i64 t179)) (fun _ h_ => h_.1))) hb); have n1_ := Aside0.mk (Kd.R_lower ho0 (below_size (by repeat (first | (with_reducible first | exact HB.out | apply below_alloc | apply pw_below_drewN | apply below_drew1 | refine below_setA ?_ ‹_›) | exact HB.out)))); have n2_ := Aside0.mk (blk_below (g := gb181) (o := .cells #[.string t176, .int .i64 t177, .int .i64 t178, .int .i64 t179] 30 (0, 0)) (by refine blk_up ?_; refine blk_put (cs := #[.string t176, .int .i64 t177, .int .i64 t178, .int .i64 0]) ?_ 3 _ rfl; refine blk_up ?_; refine blk_put (cs := #[.string t176, .int .i64 t177, .int .i64 0, .int .i64 0]) ?_ 2 _ rfl; refine blk_up ?_; refine blk_put (cs := #[.string t176, .int .i64 0, .int .i64 0, .int .i64 0]) ?_ 1 _ rfl; refine blk_up ?_; refine blk_put (cs := #[.string (⟨#[]⟩ : ByteArray), .int .i64 0, .int .i64 0, .int .i64 0]) ?_ 0 _ rfl; refine blk_up ?_; exact BK181.out) hb); have n3_ := Aside0.mk (below_step (by repeat (first | (with_reducible first | exact HB.out | apply below_alloc | apply pw_below_drewN | apply below_drew1 | refine below_setA ?_ ‹_›) | exact HB.out)) hb); clear HO175; clear BK181; clear HB; have HO175 := n0_; have HO188 := n1_; have BK181 := n2_; have HB := n3_; clear n0_ n1_ n2_ n3_; (try clear hb); (try clear hb2); (try clear hk); (try clear hi); (try clear ho0)) | ((with_reducible refine gate_dst (N := 3) rfl ?_); (try (refine gate_guard (by rfl) ?_; dsimp only)); refine box_event ?hg (N := 3) ?hd (cs := #[.string (⟨#[]⟩ : ByteArray), .int .i64 0, .int .i64 0, .int .i64 0]) (t := 30) ?hr ?_; (case hd => rfl); (case hg => rfl); (case hr => first | (go_simp; done) | (go_simp; rfl)); intro gb190 hg w30 hbox hb; have n0_ := Aside0.mk (Kd.R_below (by (with_reducible repeat (first | apply Kd.R_alloc | apply Kd.R_drewN | apply Kd.R_drew)); exact HO175.out) hb); have n1_ := Aside0.mk (Kd.R_below (by (with_reducible repeat (first | apply Kd.R_alloc | apply Kd.R_drewN | apply Kd.R_drew)); exact HO188.out) hb); have n2_ := Aside0.mk (blk_below (blk_up BK181.out) hb); have n3_ := Aside0.mk (below_step (by repeat (first | (with_reducible first | exact HB.out | apply below_alloc | apply pw_below_drewN | apply below_drew1 | refine below_setA ?_ ‹_›) | exact HB.out)) hb); have n4_ := Aside0.mk (hbox); have n5_ := Aside0.mk ((by rw [hg]; exact (below_size (by repeat (first | (with_reducible first | exact HB.out | apply below_alloc | apply pw_below_drewN | apply below_drew1 | refine below_setA ?_ ‹_›) | exact HB.out))) : w.heap.size ≤ gb190)); have n6_ := n5_; have n7_ := Aside0.mk ((by rw [hg]; exact Nat.ne_of_lt (blk_lt (blk_up BK181.out)) : gb181 ≠ gb190)); have n8_ := Aside0.mk ((by rw [hg]; exact Nat.ne_of_gt (blk_lt (blk_up BK181.out)) : gb190 ≠ gb181)); clear HO175; clear HO188; clear BK181; clear HB; have HO175 := n0_; have HO188 := n1_; have BK181 := n2_; have HB := n3_; have BK190 := n4_; have GW190 := n5_; have GE190 := n6_; have NB181_190 := n7_; have NB190_181 := n8_; clear n0_ n1_ n2_ n3_ n4_ n5_ n6_ n7_ n8_; clear hb hbox hg; have hnb31 := NB190_181.out; have hnc31 := NB181_190.out; obtain ⟨hcz32_0, hcz32_1, hcz32_2, hcz32_3, hfz32_0, hfz32_1, hfz32_2, hfz32_3⟩ := blkall_4 BK190.out) | ((with_reducible refine gate_callee (f := 18) rfl ?_); refine goesL_ (some 19) rfl rfl Try.func18 (by kernel_rfl) rfl #[.int .i64 t180] rfl (by (try simp only [List.map_toArray, List.map_cons, List.map_nil]); first | done | rfl | (simp only [List.length_drop, List.length_take]; rfl)) ?_; (with_reducible refine (thresherlaw20_num.calls t180 t191 _ A4.out).mono ?_); rintro e w' ⟨rfl, ⟨nd, rfl⟩⟩; refine ⟨_, rfl, ?_⟩) | (go_at_call 18; (with_reducible refine (thresherlaw20_num.calls t189 t192 _ A6.out).mono ?_); rintro e w' ⟨rfl, ⟨nd, rfl⟩⟩))
  go_ret
  exact ⟨by first | rfl | (simp [errW_none, errW_some] <;> rfl) | (simp [*, errW_none, errW_some] <;> rfl), by repeat (first | (with_reducible first | exact HB.out | apply below_alloc | apply pw_below_drewN | apply below_drew1 | refine below_setA ?_ ‹_›) | exact HB.out)⟩
 rw [if_pos c7] at H
 have c7b0 : (t192 == 0) = true := beq_iff_eq.mpr c7
 have c7b1 : (t192 != 0) = false := bne_eq_false_iff_eq.mpr c7
 clear c7
 obtain ⟨y193, hy193⟩ : ∃ y_ : List Int, y_ = (([0, 48, 96] : List Int)) := ⟨_, rfl⟩
 replace H : ((thresherref0_EqNumbers.f k t186 y193).bind fun t196 => (some t196)) = some r := by first | (rw [hy193]; with_reducible exact H) | (have H2_ := (Option.bind_some _ _).symm.trans H; rw [hy193]; with_reducible exact H2_) | (have H2_ := (Option.bind_some _ _).symm.trans H; with_reducible exact H2_) | with_reducible exact H | (rw [hy193]; exact H) | exact H
 have Ny193 := Aside0.mk hy193; clear hy193
 replace H := Option.bind_eq_some_iff.mp H
 obtain ⟨t196, A80, H⟩ := H
 replace H : (some t196) = some r := H
 have A8 := Aside0.mk A80; clear A80
 obtain rfl := Option.some.inj H
 go_enter Try.func32, Try.ntmps32
 go_wp2_with (first | ((with_reducible refine gate_dst (N := 7) rfl ?_); (try (refine gate_guard (by rfl) ?_; dsimp only)); refine Kd.R_make (Kd.int .u8) _ 5 rfl (N := 7) rfl 27 _ _ rfl 100 rfl rfl Try.underlying27 (.int .u8 0) 1 info5 rfl (by decide) (by omega) 0 (ok := fun _ => True) (okp := fun _ => True) rfl (fun _ hk => hk) trivial (by omega) (by omega) (Below.refl _ _) (Nat.le_refl _) ?_; intro v174 w9 ho10 hb hg_ hnew_; clear hg_ hnew_; (first | rw [← Ny173.out] at ho10 | (simp only [Int.reduceToNat] at ho10; rw [← Ny173.out] at ho10)); have n0_ := Aside0.mk (Kd.R_lower ho10 (below_size (by repeat (first | (with_reducible first | exact HB.out | apply below_alloc | apply pw_below_drewN | apply below_drew1) | exact HB.out)))); have n1_ := Aside0.mk (below_step (by repeat (first | (with_reducible first | exact HB.out | apply below_alloc | apply pw_below_drewN | apply below_drew1) | exact HB.out)) hb); clear HB; have HO175 := n0_; have HB := n1_; clear n0_ n1_; clear hb ho10; have hcv11 := own_string (P := Try.prog) Try.underlying27 Try.underlying5 Try.underlying9 (Kd.own_of_R HO175.out)) | ((with_reducible refine gate_callee (f := 28) rfl ?_); refine goesL_ (some 9) rfl rfl Try.func28 (by kernel_rfl) rfl #[.string (strOfNums y173)] rfl (by (try simp only [List.map_toArray, List.map_cons, List.map_nil]); first | done | rfl | (simp only [List.length_drop, List.length_take]; rfl)) ?_; (with_reducible refine (stream_Send.calls (strOfNums y173) t176 t177 t178 t179 t180 _ A2.out).mono ?_); rintro e w12 ⟨rfl, hb⟩; refine ⟨_, rfl, ?_⟩; have n0_ := Aside0.mk (Kd.R_below (by (with_reducible repeat (first | apply Kd.R_alloc | apply Kd.R_drewN | apply Kd.R_drew)); exact HO175.out) hb); have n1_ := Aside0.mk (below_step (by repeat (first | (with_reducible first | exact HB.out | apply below_alloc | apply pw_below_drewN | apply below_drew1) | exact HB.out)) hb); clear HO175; clear HB; have HO175 := n0_; have HB := n1_; clear n0_ n1_; (try clear hb); (try clear hb2); (try clear hk); (try clear hi)) | ((with_reducible refine gate_dst (N := 1) rfl ?_); (try (refine gate_guard (by rfl) ?_; dsimp only)); refine box_event ?hg (N := 1) ?hd (cs := #[.string (⟨#[]⟩ : ByteArray), .int .i64 0, .int .i64 0, .int .i64 0]) (t := 30) ?hr ?_; (case hd => rfl); (case hg => rfl); (case hr => first | (go_simp; done) | (go_simp; rfl)); intro gb181 hg w13 hbox hb; have n0_ := Aside0.mk (Kd.R_below (by (with_reducible repeat (first | apply Kd.R_alloc | apply Kd.R_drewN | apply Kd.R_drew)); exact HO175.out) hb); have n1_ := Aside0.mk (below_step (by repeat (first | (with_reducible first | exact HB.out | apply below_alloc | apply pw_below_drewN | apply below_drew1) | exact HB.out)) hb); have n2_ := Aside0.mk (hbox); have n3_ := Aside0.mk ((by rw [hg]; exact (below_size (by repeat (first | (with_reducible first | exact HB.out | apply below_alloc | apply pw_below_drewN | apply below_drew1) | exact HB.out))) : w.heap.size ≤ gb181)); have n4_ := n3_; clear HO175; clear HB; have HO175 := n0_; have HB := n1_; have BK181 := n2_; have GW181 := n3_; have GE181 := n4_; clear n0_ n1_ n2_ n3_ n4_; clear hb hbox hg; obtain ⟨hcz14_0, hcz14_1, hcz14_2, hcz14_3, hfz14_0, hfz14_1, hfz14_2, hfz14_3⟩ := blkall_4 BK181.out) | ((with_reducible refine gate_callee (f := 16) rfl ?_); refine goesL_ (some 14) rfl rfl Try.func16 (by kernel_rfl) rfl #[.agg #[.string t176, .int .i64 t177, .int .i64 t178, .int .i64 t179]] rfl (by (try simp only [List.map_toArray, List.map_cons, List.map_nil]); first | done | rfl | (simp only [List.length_drop, List.length_take]; rfl)) ?_; (with_reducible refine (stream_Tick.calls k t176 t177 t178 t179 t182 t183 t184 t185 t186 t189 _ A3.out).mono ?_); rintro e w15 ⟨v187, rfl, ho0, hb⟩; refine ⟨_, rfl, ?_⟩; have n0_ := Aside0.mk (Kd.R_below (by (with_reducible repeat (first | apply Kd.R_alloc | apply Kd.R_drewN | apply Kd.R_drew)); exact (Kd.R_mono (Kd.R_far (p := ⟨gb181, 3, none⟩) (Kd.R_far (p := ⟨gb181, 2, none⟩) (Kd.R_far (p := ⟨gb181, 1, none⟩) (Kd.R_far (p := ⟨gb181, 0, none⟩) (Kd.R_types HO175.out BK181.out (by decide)) (fun _ hk => hk.2) (.string t176)) (fun _ hk => hk.2) (.int .i64 t177)) (fun _ hk => hk.2) (.int .i64 t178)) (fun _ hk => hk.2) (.int .i64 t179)) (fun _ h_ => h_.1))) hb); have n1_ := Aside0.mk (Kd.R_lower ho0 (below_size (by repeat (first | (with_reducible first | exact HB.out | apply below_alloc | apply pw_below_drewN | apply below_drew1 | refine below_setA ?_ ‹_›) | exact HB.out)))); have n2_ := Aside0.mk (blk_below (g := gb181) (o := .cells #[.string t176, .int .i64 t177, .int .i64 t178, .int .i64 t179] 30 (0, 0)) (by refine blk_up ?_; refine blk_put (cs := #[.string t176, .int .i64 t177, .int .i64 t178, .int .i64 0]) ?_ 3 _ rfl; refine blk_up ?_; refine blk_put (cs := #[.string t176, .int .i64 t177, .int .i64 0, .int .i64 0]) ?_ 2 _ rfl; refine blk_up ?_; refine blk_put (cs := #[.string t176, .int .i64 0, .int .i64 0, .int .i64 0]) ?_ 1 _ rfl; refine blk_up ?_; refine blk_put (cs := #[.string (⟨#[]⟩ : ByteArray), .int .i64 0, .int .i64 0, .int .i64 0]) ?_ 0 _ rfl; refine blk_up ?_; exact BK181.out) hb); have n3_ := Aside0.mk (below_step (by repeat (first | (with_reducible first | exact HB.out | apply below_alloc | apply pw_below_drewN | apply below_drew1 | refine below_setA ?_ ‹_›) | exact HB.out)) hb); clear HO175; clear BK181; clear HB; have HO175 := n0_; have HO188 := n1_; have BK181 := n2_; have HB := n3_; clear n0_ n1_ n2_ n3_; (try clear hb); (try clear hb2); (try clear hk); (try clear hi); (try clear ho0)) | ((with_reducible refine gate_dst (N := 3) rfl ?_); (try (refine gate_guard (by rfl) ?_; dsimp only)); refine box_event ?hg (N := 3) ?hd (cs := #[.string (⟨#[]⟩ : ByteArray), .int .i64 0, .int .i64 0, .int .i64 0]) (t := 30) ?hr ?_; (case hd => rfl); (case hg => rfl); (case hr => first | (go_simp; done) | (go_simp; rfl)); intro gb190 hg w16 hbox hb; have n0_ := Aside0.mk (Kd.R_below (by (with_reducible repeat (first | apply Kd.R_alloc | apply Kd.R_drewN | apply Kd.R_drew)); exact HO175.out) hb); have n1_ := Aside0.mk (Kd.R_below (by (with_reducible repeat (first | apply Kd.R_alloc | apply Kd.R_drewN | apply Kd.R_drew)); exact HO188.out) hb); have n2_ := Aside0.mk (blk_below (blk_up BK181.out) hb); have n3_ := Aside0.mk (below_step (by repeat (first | (with_reducible first | exact HB.out | apply below_alloc | apply pw_below_drewN | apply below_drew1 | refine below_setA ?_ ‹_›) | exact HB.out)) hb); have n4_ := Aside0.mk (hbox); have n5_ := Aside0.mk ((by rw [hg]; exact (below_size (by repeat (first | (with_reducible first | exact HB.out | apply below_alloc | apply pw_below_drewN | apply below_drew1 | refine below_setA ?_ ‹_›) | exact HB.out))) : w.heap.size ≤ gb190)); have n6_ := n5_; have n7_ := Aside0.mk ((by rw [hg]; exact Nat.ne_of_lt (blk_lt (blk_up BK181.out)) : gb181 ≠ gb190)); have n8_ := Aside0.mk ((by rw [hg]; exact Nat.ne_of_gt (blk_lt (blk_up BK181.out)) : gb190 ≠ gb181)); clear HO175; clear HO188; clear BK181; clear HB; have HO175 := n0_; have HO188 := n1_; have BK181 := n2_; have HB := n3_; have BK190 := n4_; have GW190 := n5_; have GE190 := n6_; have NB181_190 := n7_; have NB190_181 := n8_; clear n0_ n1_ n2_ n3_ n4_ n5_ n6_ n7_ n8_; clear hb hbox hg; have hnb17 := NB190_181.out; have hnc17 := NB181_190.out; obtain ⟨hcz18_0, hcz18_1, hcz18_2, hcz18_3, hfz18_0, hfz18_1, hfz18_2, hfz18_3⟩ := blkall_4 BK190.out) | ((with_reducible refine gate_callee (f := 18) rfl ?_); refine goesL_ (some 19) rfl rfl Try.func18 (by kernel_rfl) rfl #[.int .i64 t180] rfl (by (try simp only [List.map_toArray, List.map_cons, List.map_nil]); first | done | rfl | (simp only [List.length_drop, List.length_take]; rfl)) ?_; (with_reducible refine (thresherlaw20_num.calls t180 t191 _ A4.out).mono ?_); rintro e w' ⟨rfl, ⟨nd, rfl⟩⟩; refine ⟨_, rfl, ?_⟩) | (go_at_call 18; (with_reducible refine (thresherlaw20_num.calls t189 t192 _ A6.out).mono ?_); rintro e w' ⟨rfl, ⟨nd, rfl⟩⟩) | ((with_reducible refine gate_dst (N := 28) rfl ?_); (try (refine gate_guard (by rfl) ?_; dsimp only)); refine Kd.R_lit (Kd.int .i64) _ 3 ?hg (N := 28) ?hd (xs := ([0, 48, 96] : List Int)) (inner := [.int .i64 0, .int .i64 48, .int .i64 96]) (ok := fun _ => True) (okp := fun _ => True) ?hr ?hp (fun _ hk => hk) trivial (Below.refl _ _) (Nat.le_refl _) (by simp) ?_; (case hd => rfl); (case hg => rfl); (case hr => first | (go_simp; done) | (go_simp; rfl)); (case hp => exact (Reps.one (show Kd.M (Kd.int .i64) _ _ _ 0 [.int .i64 0] from rfl) (Reps.one (show Kd.M (Kd.int .i64) _ _ _ 48 [.int .i64 48] from rfl) (Reps.one (show Kd.M (Kd.int .i64) _ _ _ 96 [.int .i64 96] from rfl) (Reps.none _ _))))); intro v194 w19 ho20 hb hg_ hnew_; clear hg_ hnew_; (first | rw [← Ny193.out] at ho20 | (simp only [Int.reduceToNat] at ho20; rw [← Ny193.out] at ho20)); have n0_ := Aside0.mk (Kd.R_below (by (with_reducible repeat (first | apply Kd.R_alloc | apply Kd.R_drewN | apply Kd.R_drew)); exact (Kd.R_mono (Kd.R_far (p := ⟨gb190, 3, none⟩) (Kd.R_far (p := ⟨gb190, 2, none⟩) (Kd.R_far (p := ⟨gb190, 1, none⟩) (Kd.R_far (p := ⟨gb190, 0, none⟩) (Kd.R_types HO175.out BK190.out (by decide)) (fun _ hk => hk.2) (.string t182)) (fun _ hk => hk.2) (.int .i64 t183)) (fun _ hk => hk.2) (.int .i64 t184)) (fun _ hk => hk.2) (.int .i64 t185)) (fun _ h_ => h_.1))) hb); have n1_ := Aside0.mk (Kd.R_elder' (by (with_reducible repeat (first | apply Kd.R_alloc | apply Kd.R_drewN | apply Kd.R_drew)); exact (Kd.R_mono (Kd.R_far (p := ⟨gb190, 3, none⟩) (Kd.R_far (p := ⟨gb190, 2, none⟩) (Kd.R_far (p := ⟨gb190, 1, none⟩) (Kd.R_far (p := ⟨gb190, 0, none⟩) (Kd.R_types HO188.out BK190.out (by decide)) (fun _ hk => hk.2) (.string t182)) (fun _ hk => hk.2) (.int .i64 t183)) (fun _ hk => hk.2) (.int .i64 t184)) (fun _ hk => hk.2) (.int .i64 t185)) (fun _ h_ => h_.1))) (Kd.R_base ho20) hb); have n2_ := Aside0.mk (Kd.R_lower (Kd.R_new' ho20 (Kd.R_lt (by (with_reducible repeat (first | apply Kd.R_alloc | apply Kd.R_drewN | apply Kd.R_drew)); exact (Kd.R_mono (Kd.R_far (p := ⟨gb190, 3, none⟩) (Kd.R_far (p := ⟨gb190, 2, none⟩) (Kd.R_far (p := ⟨gb190, 1, none⟩) (Kd.R_far (p := ⟨gb190, 0, none⟩) (Kd.R_types HO188.out BK190.out (by decide)) (fun _ hk => hk.2) (.string t182)) (fun _ hk => hk.2) (.int .i64 t183)) (fun _ hk => hk.2) (.int .i64 t184)) (fun _ hk => hk.2) (.int .i64 t185)) (fun _ h_ => h_.1))))) (below_size (by repeat (first | (with_reducible first | exact HB.out | apply below_alloc | apply pw_below_drewN | apply below_drew1 | refine below_setA ?_ ‹_›) | exact HB.out)))); have n3_ := Aside0.mk (blk_below (g := gb181) (o := .cells #[.string t176, .int .i64 t177, .int .i64 t178, .int .i64 t179] 30 (0, 0)) (by (with_reducible repeat (first | refine blk_drewN ?_ _ | refine blk_drew ?_ | refine blk_alloc ?_ _ | refine blk_far ?_ NB181_190.out _)); exact BK181.out) hb); have n4_ := Aside0.mk (blk_below (g := gb190) (o := .cells #[.string t182, .int .i64 t183, .int .i64 t184, .int .i64 t185] 30 (0, 0)) (by refine blk_up ?_; refine blk_put (cs := #[.string t182, .int .i64 t183, .int .i64 t184, .int .i64 0]) ?_ 3 _ rfl; refine blk_up ?_; refine blk_put (cs := #[.string t182, .int .i64 t183, .int .i64 0, .int .i64 0]) ?_ 2 _ rfl; refine blk_up ?_; refine blk_put (cs := #[.string t182, .int .i64 0, .int .i64 0, .int .i64 0]) ?_ 1 _ rfl; refine blk_up ?_; refine blk_put (cs := #[.string (⟨#[]⟩ : ByteArray), .int .i64 0, .int .i64 0, .int .i64 0]) ?_ 0 _ rfl; refine blk_up ?_; exact BK190.out) hb); have n5_ := Aside0.mk (below_step (by repeat (first | (with_reducible first | exact HB.out | apply below_alloc | apply pw_below_drewN | apply below_drew1 | refine below_setA ?_ ‹_›) | exact HB.out)) hb); clear HO175; clear HO188; clear BK181; clear BK190; clear HB; have HO175 := n0_; have HO188 := n1_; have HO195 := n2_; have BK181 := n3_; have BK190 := n4_; have HB := n5_; clear n0_ n1_ n2_ n3_ n4_ n5_; clear hb ho20; obtain ⟨Ao21, co21, eo21⟩ := Kd.R_slice HO188.out; subst eo21; obtain ⟨Ao22, co22, eo22⟩ := Kd.R_slice HO195.out; subst eo22) | (go_at_call 19; (with_reducible refine (thresherref0_EqNumbers.calls k _ _ t186 _ _ y193 t196 _ ?side1 ?side2 ?side3 ?side4 A8.out).mono ?_); (case side1 => repeat (first | exact (Kd.R_reads' HO188.out).2.2 | (with_reducible refine Kd.C_alloc ?_ _) | (with_reducible refine Kd.C_drewN ?_ _) | (with_reducible refine Kd.C_drew ?_))); (case side2 => exact (Kd.R_reads' HO188.out).2.1); (case side3 => repeat (first | exact (Kd.R_reads' HO195.out).2.2 | (with_reducible refine Kd.C_alloc ?_ _) | (with_reducible refine Kd.C_drewN ?_ _) | (with_reducible refine Kd.C_drew ?_))); (case side4 => exact (Kd.R_reads' HO195.out).2.1); rintro e w' ⟨rfl, ⟨nd, rfl⟩⟩))
 go_ret
 exact ⟨by first | rfl | (simp [errW_none, errW_some] <;> rfl) | (simp [*, errW_none, errW_some] <;> rfl), by repeat (first | (with_reducible first | exact HB.out | apply below_alloc | apply pw_below_drewN | apply below_drew1 | refine below_setA ?_ ‹_›) | exact HB.out)⟩
/-! ### thresherlaw20_StreamExact: function 5 -/
mutual
def thresherlaw20_StreamExact.l0 : Nat → Int → ByteArray → Int → Int → Int → Int → Int → ByteArray → Bool → List (S38) → ByteArray → Int → Int → Int → Int → Int → ByteArray → Bool → Option (Bool)
 | 0, _, _, _, _, _, _, _, _, _, _, _, _, _, _, _, _, _, _ => none
 | k + 1, x5, x198000, x198001, x198002, x198003, x198004, x198005, x198006, x198007, x198008, x200000, x200001, x200002, x200003, x201000, x201001, x201002, x201003 => if x5 < (x198008.length : Int) then (thresherlaw20_StreamExact.j1 k x5 (decide (x5 < 15)) x198000 x198001 x198002 x198003 x198004 x198005 x198006 x198007 x198008 x200000 x200001 x200002 x200003 x201000 x201001 x201002 x201003) else (thresherlaw20_StreamExact.j1 k x5 false x198000 x198001 x198002 x198003 x198004 x198005 x198006 x198007 x198008 x200000 x200001 x200002 x200003 x201000 x201001 x201002 x201003)
def thresherlaw20_StreamExact.j1 : Nat → Int → Bool → ByteArray → Int → Int → Int → Int → Int → ByteArray → Bool → List (S38) → ByteArray → Int → Int → Int → Int → Int → ByteArray → Bool → Option (Bool)
 | 0, _, _, _, _, _, _, _, _, _, _, _, _, _, _, _, _, _, _, _ => none
 | k + 1, x5, x48, x198000, x198001, x198002, x198003, x198004, x198005, x198006, x198007, x198008, x200000, x200001, x200002, x200003, x201000, x201001, x201002, x201003 => if x48 = true then (if 0 ≤ x5 then (if x5 < (x198008.length : Int) then ((thresherref19_Sender.f x200000 x200001 x200002 x200003).bind fun t203 => ((thresherlaw0_Within.f ((rd_T38 x198008 x5).f0) 8).bind fun t204 => (if t204 = 0 then (thresherlaw20_StreamExact.j2 k x5 t203 t204 (t204 == 0) x198000 x198001 x198002 x198003 x198004 x198005 x198006 x198007 x198008 x200000 x200001 x200002 x200003 x201000 x201001 x201002 x201003 ((rd_T38 x198008 x5).f0) ((rd_T38 x198008 x5).f1) ((rd_T38 x198008 x5).f2) ((rd_T38 x198008 x5).f3) ((rd_T38 x198008 x5).f4) ((rd_T38 x198008 x5).f5)) else (thresherlaw20_StreamExact.j2 k x5 t203 t204 (t204 == 1) x198000 x198001 x198002 x198003 x198004 x198005 x198006 x198007 x198008 x200000 x200001 x200002 x200003 x201000 x201001 x201002 x201003 ((rd_T38 x198008 x5).f0) ((rd_T38 x198008 x5).f1) ((rd_T38 x198008 x5).f2) ((rd_T38 x198008 x5).f3) ((rd_T38 x198008 x5).f4) ((rd_T38 x198008 x5).f5))))) else (none)) else (none)) else ((stream_Send.f x198000).bind fun bt263 => (if (x198000.size : Int) ≥ 1 then ((thresherref19_Send.f x198000).bind fun bt270 => (thresherlaw20_StreamExact.j12 k bt263.2.2.2.2 0 bt263.1 bt263.2.1 bt263.2.2.1 bt263.2.2.2.1 bt270.1 bt270.2.1 bt270.2.2.1 bt270.2.2.2)) else (thresherlaw20_StreamExact.j12 k bt263.2.2.2.2 1 bt263.1 bt263.2.1 bt263.2.2.1 bt263.2.2.2.1 (⟨#[]⟩ : ByteArray) 0 0 0)))
def thresherlaw20_StreamExact.j2 : Nat → Int → Bool → Int → Bool → ByteArray → Int → Int → Int → Int → Int → ByteArray → Bool → List (S38) → ByteArray → Int → Int → Int → Int → Int → ByteArray → Bool → Int → Int → Int → Int → ByteArray → Bool → Option (Bool)
 | 0, _, _, _, _, _, _, _, _, _, _, _, _, _, _, _, _, _, _, _, _, _, _, _, _, _, _, _ => none
 | k + 1, x5, x7, x60, x151, x198000, x198001, x198002, x198003, x198004, x198005, x198006, x198007, x198008, x200000, x200001, x200002, x200003, x201000, x201001, x201002, x201003, x203000, x203001, x203002, x203003, x203004, x203005 => if x151 = true then ((stream_Tick.f k x200000 x200001 x200002 x200003).bind fun bt205 => (if x7 = true then ((thresherref19_Tick.f k x200000 x200001 x200002 x200003).bind fun bt215 => (thresherlaw20_StreamExact.j3 k x5 bt205.2.2.2.2.1 bt205.2.2.2.2.2 0 bt215.2.2.2.2 x198000 x198001 x198002 x198003 x198004 x198005 x198006 x198007 x198008 x200000 x200001 x200002 x200003 x201000 x201001 x201002 x201003 bt205.1 bt205.2.1 bt205.2.2.1 bt205.2.2.2.1 bt215.1 bt215.2.1 bt215.2.2.1 bt215.2.2.2.1)) else (thresherlaw20_StreamExact.j3 k x5 bt205.2.2.2.2.1 bt205.2.2.2.2.2 1 ([] : List Int) x198000 x198001 x198002 x198003 x198004 x198005 x198006 x198007 x198008 x200000 x200001 x200002 x200003 x201000 x201001 x201002 x201003 bt205.1 bt205.2.1 bt205.2.2.1 bt205.2.2.2.1 (⟨#[]⟩ : ByteArray) 0 0 0))) else (if x60 = 2 then ((stream_Ack.f x200000 x200001 x200002 x200003 x203001).bind fun bt224 => (if x7 = true then ((thresherref19_Ack.f x200000 x200001 x200002 x200003 x203001).bind fun bt231 => (thresherlaw20_StreamExact.j5 k x5 bt224.2.2.2.2 0 x198000 x198001 x198002 x198003 x198004 x198005 x198006 x198007 x198008 x200000 x200001 x200002 x200003 x201000 x201001 x201002 x201003 bt224.1 bt224.2.1 bt224.2.2.1 bt224.2.2.2.1 bt231.1 bt231.2.1 bt231.2.2.1 bt231.2.2.2)) else (thresherlaw20_StreamExact.j5 k x5 bt224.2.2.2.2 1 x198000 x198001 x198002 x198003 x198004 x198005 x198006 x198007 x198008 x200000 x200001 x200002 x200003 x201000 x201001 x201002 x201003 bt224.1 bt224.2.1 bt224.2.2.1 bt224.2.2.2.1 (⟨#[]⟩ : ByteArray) 0 0 0))) else (if x60 = 3 then ((stream_Chunk.f x200000 x200001 x200002 x200003 x203001).bind fun bt236 => (if x7 = true then ((thresherref0_Num.f x203001 (wrap64 ((x200000.size : Int) - 1))).bind fun t238 => (thresherlaw20_StreamExact.j7 k x5 bt236.1 bt236.2 1 (⟨#[]⟩ : ByteArray) t238 x198000 x198001 x198002 x198003 x198004 x198005 x198006 x198007 x198008 x200000 x200001 x200002 x200003 x201000 x201001 x201002 x201003 x203000 x203001 x203002 x203003 x203004 x203005)) else (thresherlaw20_StreamExact.j7 k x5 bt236.1 bt236.2 1 (⟨#[]⟩ : ByteArray) false x198000 x198001 x198002 x198003 x198004 x198005 x198006 x198007 x198008 x200000 x200001 x200002 x200003 x201000 x201001 x201002 x201003 x203000 x203001 x203002 x203003 x203004 x203005))) else (if x203005 = true then (thresherlaw20_StreamExact.j8 k x5 x7 x198000 x198001 x198002 x198003 x198004 x198005 x198006 x198007 x198008 x200000 x200001 x200002 x200003 x201000 x201001 x201002 x201003 x203000 x203001 x203002 x203003 x203004 x203005) else (thresherlaw20_StreamExact.j8 k x5 false x198000 x198001 x198002 x198003 x198004 x198005 x198006 x198007 x198008 x200000 x200001 x200002 x200003 x201000 x201001 x201002 x201003 x203000 x203001 x203002 x203003 x203004 x203005))))
def thresherlaw20_StreamExact.j3 : Nat → Int → List Int → Int → Int → List Int → ByteArray → Int → Int → Int → Int → Int → ByteArray → Bool → List (S38) → ByteArray → Int → Int → Int → Int → Int → ByteArray → Bool → ByteArray → Int → Int → Int → ByteArray → Int → Int → Int → Option (Bool)
 | 0, _, _, _, _, _, _, _, _, _, _, _, _, _, _, _, _, _, _, _, _, _, _, _, _, _, _, _, _, _, _ => none
 | k + 1, x5, x9, x10, x11, x13, x198000, x198001, x198002, x198003, x198004, x198005, x198006, x198007, x198008, x200000, x200001, x200002, x200003, x201000, x201001, x201002, x201003, x214000, x214001, x214002, x214003, x215000, x215001, x215002, x215003 => (thresherlaw20_num.f x10).bind fun t222 => (if t222 = x11 then (if (!(x214000.toList == x215000.toList) || (!(x214001 == x215001) || (!(x214002 == x215002) || (!(x214003 == x215003))))) = true then (thresherlaw20_StreamExact.j4 k x5 x11 true x198000 x198001 x198002 x198003 x198004 x198005 x198006 x198007 x198008 x200000 x200001 x200002 x200003 x201000 x201001 x201002 x201003 x215000 x215001 x215002 x215003) else ((thresherref0_EqNumbers.f k x9 x13).bind fun t223 => (thresherlaw20_StreamExact.j4 k x5 x11 (!t223) x198000 x198001 x198002 x198003 x198004 x198005 x198006 x198007 x198008 x200000 x200001 x200002 x200003 x201000 x201001 x201002 x201003 x215000 x215001 x215002 x215003))) else (thresherlaw20_StreamExact.j4 k x5 x11 true x198000 x198001 x198002 x198003 x198004 x198005 x198006 x198007 x198008 x200000 x200001 x200002 x200003 x201000 x201001 x201002 x201003 x215000 x215001 x215002 x215003))
def thresherlaw20_StreamExact.j4 : Nat → Int → Int → Bool → ByteArray → Int → Int → Int → Int → Int → ByteArray → Bool → List (S38) → ByteArray → Int → Int → Int → Int → Int → ByteArray → Bool → ByteArray → Int → Int → Int → Option (Bool)
 | 0, _, _, _, _, _, _, _, _, _, _, _, _, _, _, _, _, _, _, _, _, _, _, _, _ => none
 | k + 1, x5, x11, x181, x198000, x198001, x198002, x198003, x198004, x198005, x198006, x198007, x198008, x200000, x200001, x200002, x200003, x201000, x201001, x201002, x201003, x215000, x215001, x215002, x215003 => if x181 = true then (some false) else (if x11 = 0 then (thresherlaw20_StreamExact.l0 k (wrap64 (x5 + 1)) x198000 x198001 x198002 x198003 x198004 x198005 x198006 x198007 x198008 x215000 x215001 x215002 x215003 x201000 x201001 x201002 x201003) else (thresherlaw20_StreamExact.l0 k (wrap64 (x5 + 1)) x198000 x198001 x198002 x198003 x198004 x198005 x198006 x198007 x198008 x200000 x200001 x200002 x200003 x201000 x201001 x201002 x201003))
def thresherlaw20_StreamExact.j5 : Nat → Int → Int → Int → ByteArray → Int → Int → Int → Int → Int → ByteArray → Bool → List (S38) → ByteArray → Int → Int → Int → Int → Int → ByteArray → Bool → ByteArray → Int → Int → Int → ByteArray → Int → Int → Int → Option (Bool)
 | 0, _, _, _, _, _, _, _, _, _, _, _, _, _, _, _, _, _, _, _, _, _, _, _, _, _, _, _, _ => none
 | k + 1, x5, x15, x16, x198000, x198001, x198002, x198003, x198004, x198005, x198006, x198007, x198008, x200000, x200001, x200002, x200003, x201000, x201001, x201002, x201003, x230000, x230001, x230002, x230003, x231000, x231001, x231002, x231003 => (thresherlaw20_num.f x15).bind fun t235 => (if t235 = x16 then (thresherlaw20_StreamExact.j6 k x5 x16 (!(x230000.toList == x231000.toList) || (!(x230001 == x231001) || (!(x230002 == x231002) || (!(x230003 == x231003))))) x198000 x198001 x198002 x198003 x198004 x198005 x198006 x198007 x198008 x200000 x200001 x200002 x200003 x201000 x201001 x201002 x201003 x231000 x231001 x231002 x231003) else (thresherlaw20_StreamExact.j6 k x5 x16 true x198000 x198001 x198002 x198003 x198004 x198005 x198006 x198007 x198008 x200000 x200001 x200002 x200003 x201000 x201001 x201002 x201003 x231000 x231001 x231002 x231003))
def thresherlaw20_StreamExact.j6 : Nat → Int → Int → Bool → ByteArray → Int → Int → Int → Int → Int → ByteArray → Bool → List (S38) → ByteArray → Int → Int → Int → Int → Int → ByteArray → Bool → ByteArray → Int → Int → Int → Option (Bool)
 | 0, _, _, _, _, _, _, _, _, _, _, _, _, _, _, _, _, _, _, _, _, _, _, _, _ => none
 | k + 1, x5, x16, x208, x198000, x198001, x198002, x198003, x198004, x198005, x198006, x198007, x198008, x200000, x200001, x200002, x200003, x201000, x201001, x201002, x201003, x231000, x231001, x231002, x231003 => if x208 = true then (some false) else (if x16 = 0 then (thresherlaw20_StreamExact.l0 k (wrap64 (x5 + 1)) x198000 x198001 x198002 x198003 x198004 x198005 x198006 x198007 x198008 x231000 x231001 x231002 x231003 x201000 x201001 x201002 x201003) else (thresherlaw20_StreamExact.l0 k (wrap64 (x5 + 1)) x198000 x198001 x198002 x198003 x198004 x198005 x198006 x198007 x198008 x200000 x200001 x200002 x200003 x201000 x201001 x201002 x201003))
def thresherlaw20_StreamExact.j7 : Nat → Int → ByteArray → Int → Int → ByteArray → Bool → ByteArray → Int → Int → Int → Int → Int → ByteArray → Bool → List (S38) → ByteArray → Int → Int → Int → Int → Int → ByteArray → Bool → Int → Int → Int → Int → ByteArray → Bool → Option (Bool)
 | 0, _, _, _, _, _, _, _, _, _, _, _, _, _, _, _, _, _, _, _, _, _, _, _, _, _, _, _, _, _ => none
 | k + 1, x5, x18, x19, x20, x21, x230, x198000, x198001, x198002, x198003, x198004, x198005, x198006, x198007, x198008, x200000, x200001, x200002, x200003, x201000, x201001, x201002, x201003, x203000, x203001, x203002, x203003, x203004, x203005 => if x230 = true then ((thresherref19_Chunk.f x200000 x200001 x200002 x200003 x203001).bind fun t239 => ((thresherlaw20_num.f x19).bind fun t240 => (if t240 = 0 then (if x18.toList = t239.toList then (thresherlaw20_StreamExact.l0 k (wrap64 (x5 + 1)) x198000 x198001 x198002 x198003 x198004 x198005 x198006 x198007 x198008 x200000 x200001 x200002 x200003 x201000 x201001 x201002 x201003) else (some false)) else (some false)))) else ((thresherlaw20_num.f x19).bind fun t241 => (if t241 = x20 then (if x18.toList = x21.toList then (thresherlaw20_StreamExact.l0 k (wrap64 (x5 + 1)) x198000 x198001 x198002 x198003 x198004 x198005 x198006 x198007 x198008 x200000 x200001 x200002 x200003 x201000 x201001 x201002 x201003) else (some false)) else (some false)))
def thresherlaw20_StreamExact.j8 : Nat → Int → Bool → ByteArray → Int → Int → Int → Int → Int → ByteArray → Bool → List (S38) → ByteArray → Int → Int → Int → Int → Int → ByteArray → Bool → Int → Int → Int → Int → ByteArray → Bool → Option (Bool)
 | 0, _, _, _, _, _, _, _, _, _, _, _, _, _, _, _, _, _, _, _, _, _, _, _, _, _ => none
 | k + 1, x5, x65, x198000, x198001, x198002, x198003, x198004, x198005, x198006, x198007, x198008, x200000, x200001, x200002, x200003, x201000, x201001, x201002, x201003, x203000, x203001, x203002, x203003, x203004, x203005 => if x65 = true then ((thresherlaw0_Within.f x203001 (x200000.size : Int)).bind fun t242 => ((thresherref1_Sum.f k x200000).bind fun t243 => ((thresherref19_Chunk.f x200000 x200001 x200002 x200003 t242).bind fun t244 => (thresherlaw20_StreamExact.j9 k x5 x198000 x198001 x198002 x198003 x198004 x198005 x198006 x198007 x198008 x200000 x200001 x200002 x200003 x201000 x201001 x201002 x201003 x203000 t242 (x200000.size : Int) t243 t244 x203005)))) else (thresherlaw20_StreamExact.j9 k x5 x198000 x198001 x198002 x198003 x198004 x198005 x198006 x198007 x198008 x200000 x200001 x200002 x200003 x201000 x201001 x201002 x201003 x203000 x203001 x203002 x203003 x203004 x203005)
def thresherlaw20_StreamExact.j9 : Nat → Int → ByteArray → Int → Int → Int → Int → Int → ByteArray → Bool → List (S38) → ByteArray → Int → Int → Int → Int → Int → ByteArray → Bool → Int → Int → Int → Int → ByteArray → Bool → Option (Bool)
 | 0, _, _, _, _, _, _, _, _, _, _, _, _, _, _, _, _, _, _, _, _, _, _, _, _ => none
 | k + 1, x5, x198000, x198001, x198002, x198003, x198004, x198005, x198006, x198007, x198008, x200000, x200001, x200002, x200003, x201000, x201001, x201002, x201003, x203000, x203001, x203002, x203003, x203004, x203005 => (stream_Take.f k x201000 x201001 x201002 x201003 x203001 x203002 x203003 x203004).bind fun bt245 => ((thresherref19_MayTake.f k x201000 x201001 x201002 x201003 x203001 x203002 x203004).bind fun t254 => (if t254 = true then ((thresherref19_Take.f k x201000 x201001 x201002 x201003 x203001 x203002 x203003 x203004).bind fun bt255 => (thresherlaw20_StreamExact.j10 k x5 bt245.2.2.2.2.1 bt245.2.2.2.2.2.1 bt245.2.2.2.2.2.2 bt255.2.2.2.2.2.2 bt255.2.2.2.2.1 bt255.2.2.2.2.2.1 x198000 x198001 x198002 x198003 x198004 x198005 x198006 x198007 x198008 x200000 x200001 x200002 x200003 x201000 x201001 x201002 x201003 bt245.1 bt245.2.1 bt245.2.2.1 bt245.2.2.2.1 bt255.1 bt255.2.1 bt255.2.2.1 bt255.2.2.2.1)) else (thresherlaw20_StreamExact.j10 k x5 bt245.2.2.2.2.1 bt245.2.2.2.2.2.1 bt245.2.2.2.2.2.2 1 0 false x198000 x198001 x198002 x198003 x198004 x198005 x198006 x198007 x198008 x200000 x200001 x200002 x200003 x201000 x201001 x201002 x201003 bt245.1 bt245.2.1 bt245.2.2.1 bt245.2.2.2.1 0 0 (⟨#[]⟩ : ByteArray) false)))
def thresherlaw20_StreamExact.j10 : Nat → Int → Int → Bool → Int → Int → Int → Bool → ByteArray → Int → Int → Int → Int → Int → ByteArray → Bool → List (S38) → ByteArray → Int → Int → Int → Int → Int → ByteArray → Bool → Int → Int → ByteArray → Bool → Int → Int → ByteArray → Bool → Option (Bool)
 | 0, _, _, _, _, _, _, _, _, _, _, _, _, _, _, _, _, _, _, _, _, _, _, _, _, _, _, _, _, _, _, _, _ => none
 | k + 1, x5, x23, x24, x25, x26, x28, x29, x198000, x198001, x198002, x198003, x198004, x198005, x198006, x198007, x198008, x200000, x200001, x200002, x200003, x201000, x201001, x201002, x201003, x253000, x253001, x253002, x253003, x254000, x254001, x254002, x254003 => (thresherlaw20_num.f x25).bind fun t262 => (if t262 = x26 then (if (!(x253000 == x254000) || (!(x253001 == x254001) || (!(x253002.toList == x254002.toList) || (!(x253003 == x254003))))) = true then (thresherlaw20_StreamExact.j11 k x5 x26 true x198000 x198001 x198002 x198003 x198004 x198005 x198006 x198007 x198008 x200000 x200001 x200002 x200003 x201000 x201001 x201002 x201003 x254000 x254001 x254002 x254003) else (if x23 = x28 then (thresherlaw20_StreamExact.j11 k x5 x26 (x24 != x29) x198000 x198001 x198002 x198003 x198004 x198005 x198006 x198007 x198008 x200000 x200001 x200002 x200003 x201000 x201001 x201002 x201003 x254000 x254001 x254002 x254003) else (thresherlaw20_StreamExact.j11 k x5 x26 true x198000 x198001 x198002 x198003 x198004 x198005 x198006 x198007 x198008 x200000 x200001 x200002 x200003 x201000 x201001 x201002 x201003 x254000 x254001 x254002 x254003))) else (thresherlaw20_StreamExact.j11 k x5 x26 true x198000 x198001 x198002 x198003 x198004 x198005 x198006 x198007 x198008 x200000 x200001 x200002 x200003 x201000 x201001 x201002 x201003 x254000 x254001 x254002 x254003))
def thresherlaw20_StreamExact.j11 : Nat → Int → Int → Bool → ByteArray → Int → Int → Int → Int → Int → ByteArray → Bool → List (S38) → ByteArray → Int → Int → Int → Int → Int → ByteArray → Bool → Int → Int → ByteArray → Bool → Option (Bool)
 | 0, _, _, _, _, _, _, _, _, _, _, _, _, _, _, _, _, _, _, _, _, _, _, _, _ => none
 | k + 1, x5, x26, x143, x198000, x198001, x198002, x198003, x198004, x198005, x198006, x198007, x198008, x200000, x200001, x200002, x200003, x201000, x201001, x201002, x201003, x254000, x254001, x254002, x254003 => if x143 = true then (some false) else (if x26 = 0 then (thresherlaw20_StreamExact.l0 k (wrap64 (x5 + 1)) x198000 x198001 x198002 x198003 x198004 x198005 x198006 x198007 x198008 x200000 x200001 x200002 x200003 x254000 x254001 x254002 x254003) else (if x26 = 8 then (thresherlaw20_StreamExact.l0 k (wrap64 (x5 + 1)) x198000 x198001 x198002 x198003 x198004 x198005 x198006 x198007 x198008 x200000 x200001 x200002 x200003 x254000 x254001 x254002 x254003) else (thresherlaw20_StreamExact.l0 k (wrap64 (x5 + 1)) x198000 x198001 x198002 x198003 x198004 x198005 x198006 x198007 x198008 x200000 x200001 x200002 x200003 x201000 x201001 x201002 x201003)))
def thresherlaw20_StreamExact.j12 : Nat → Int → Int → ByteArray → Int → Int → Int → ByteArray → Int → Int → Int → Option (Bool)
 | 0, _, _, _, _, _, _, _, _, _, _ => none
 | k + 1, x31, x32, x269000, x269001, x269002, x269003, x270000, x270001, x270002, x270003 => (thresherlaw20_num.f x31).bind fun t274 => (if t274 = x32 then (if (x269000.toList == x270000.toList && (x269001 == x270001 && (x269002 == x270002 && (x269003 == x270003)))) = true then ((stream_New.f).bind fun bt275 => ((thresherref19_New.f).bind fun bt279 => (if (bt275.1 == bt279.1 && (bt275.2.1 == bt279.2.1 && (bt275.2.2.1.toList == bt279.2.2.1.toList && (bt275.2.2.2 == bt279.2.2.2)))) = true then ((thresherlaw20_wakes.f k).bind fun t283 => (some t283)) else (some false)))) else (some false)) else (some false))
end
def thresherlaw20_StreamExact.f (k : Nat) (a0_0 : ByteArray) (a0_1 : Int) (a0_2 : Int) (a0_3 : Int) (a0_4 : Int) (a0_5 : Int) (a0_6 : ByteArray) (a0_7 : Bool) (l0_8 : List (S38)) : Option (Bool) := (thresherlaw20_heavy.f k a0_0 a0_1 a0_2 a0_3 a0_4 a0_5 a0_6 a0_7 l0_8).bind fun t198 => (if t198 = true then (some true) else (thresherlaw20_StreamExact.l0 k 0 a0_0 a0_1 a0_2 a0_3 a0_4 a0_5 a0_6 a0_7 l0_8 a0_0 a0_1 a0_2 a0_3 a0_4 a0_5 a0_6 a0_7))
def thresherlaw20_StreamExact.T3 : Bool × List (List Nat × List Nat) := (true, [([], []), ([0], [0]), ([], []), ([2], [2]), ([], []), ([], []), ([4, 1, 0, 1, 4, 5], [1, 4]), ([5, 3, 6, 0, 1, 2, 3, 4, 5, 6], [3, 5])])
def thresherlaw20_StreamExact.B3 : List Nat := [0, 1, 0, 4, 0, 0, 51, 127]
theorem thresherlaw20_StreamExact.tab3 : rtab .any (opsOf Try.f5 3) = thresherlaw20_StreamExact.T3 := by kernel_rfl
theorem thresherlaw20_StreamExact.bits3 : waitsOk thresherlaw20_StreamExact.T3.2 thresherlaw20_StreamExact.B3 = true := by kernel_rfl
def thresherlaw20_StreamExact.T11 : Bool × List (List Nat × List Nat) := (true, [([], []), ([0], [0]), ([], []), ([2], [2]), ([3], [3]), ([1, 4], [1, 4]), ([], []), ([6], [6]), ([7], [7]), ([], []), ([9], [9]), ([10, 5], [10]), ([0, 1, 2, 3, 4, 5], []), ([12, 5, 11, 0, 1, 2, 3, 4, 5], [5, 12]), ([0, 1, 2, 3, 4, 5, 6, 7, 8, 12, 13], []), ([14, 8, 13, 0, 1, 2, 3, 4, 5, 6, 7, 8, 12, 13], [8, 14]), ([0, 1, 2, 3, 4, 5, 6, 7, 8, 9, 10, 11, 12, 13, 14, 15], []), ([16, 11, 15, 0, 1, 2, 3, 4, 5, 6, 7, 8, 9, 10, 11, 12, 13, 14, 15], [11, 16])])
def thresherlaw20_StreamExact.B11 : List Nat := [0, 1, 0, 4, 12, 31, 0, 64, 192, 0, 512, 1599, 63, 7743, 16383, 32767, 65535, 131071]
theorem thresherlaw20_StreamExact.tab11 : rtab .any (opsOf Try.f5 11) = thresherlaw20_StreamExact.T11 := by kernel_rfl
theorem thresherlaw20_StreamExact.bits11 : waitsOk thresherlaw20_StreamExact.T11.2 thresherlaw20_StreamExact.B11 = true := by kernel_rfl

end Go.Proofs.Ytbadcpaopdbgnaa.PStreamExact
