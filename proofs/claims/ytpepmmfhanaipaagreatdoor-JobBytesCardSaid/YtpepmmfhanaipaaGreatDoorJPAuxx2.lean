-- Put together by mergex.py out of this workplace's texts.
import Derived.Test.YtpepmmfhanaipaaGreatDoorJPAuxx0
import Derived.Test.YtpepmmfhanaipaaGreatDoorJPAuxx1
namespace Go.Proofs.YtpepmmfhanaipaaGreatDoor.PAux
open Go.RowKit Go.Proofs.YtpepmmfhanaipaaGreatDoorW.PrintWords Go.Proofs.YtpepmmfhanaipaaGreatDoorW.PrintLast Go.Proofs.YtpepmmfhanaipaaGreatDoorW.PrintMore
attribute [local go_sem] max2_int min2_int max_two min_two max_three min_three max_four min_four   -- for this text's walks alone
set_option linter.unusedVariables false
set_option linter.unusedSimpArgs false
def split_may.f (k : Nat) (a0_0 : Int) (a0_1 : ByteArray) (l0_2 : List Int) (a1 : Int) : Option (Bool) := (rec_All.f k a0_1).bind fun bt131 => (if bt131.2 = 0 then (if (l0_2.length : Int) > 0 then ((split_Rising.f k l0_2 a1).bind fun t135 => (some t135)) else (some false)) else (some false))
set_option maxHeartbeats 8000000 in
set_option maxRecDepth 100000 in
theorem split_may.calls (k : Nat) (a0_0 : Int) (a0_1 : ByteArray) (A0_2 : Option Addr) (c0_2 : Nat) (l0_2 : List Int) (a1 : Int) (r : Bool) (w : World) (hr0_2 : Kd.C (Kd.int .i64) w A0_2 l0_2.length l0_2) (hc0_2 : l0_2.length ≤ c0_2) (h : split_may.f k a0_0 a0_1 l0_2 a1 = some r) :
  Calls Tryz.prog 134 #[.agg #[.int .i64 a0_0, .string a0_1, .slice A0_2 l0_2.length c0_2], .int .i64 a1] w fun e w' => e = .returned (.bool r) ∧ Below w.heap.size w w' := by
 have hu123 := Tryz.underlying123; have HR0_2 := Aside0.mk hr0_2; have HC0_2 := Aside0.mk hc0_2; clear hr0_2 hc0_2
 have HB := Aside0.mk (Below.refl w.heap.size w)
 have H : ((rec_All.f k a0_1).bind fun bt131 => (if bt131.2 = 0 then (if (l0_2.length : Int) > 0 then ((split_Rising.f k l0_2 a1).bind fun t135 => (some t135)) else (some false)) else (some false))) = some r := h
 clear h
 replace H := Option.bind_eq_some_iff.mp H
 obtain ⟨⟨t131, t132⟩, A30, H⟩ := H
 replace H : (if t132 = 0 then (if (l0_2.length : Int) > 0 then ((split_Rising.f k l0_2 a1).bind fun t135 => (some t135)) else (some false)) else (some false)) = some r := H
 have A3 := Aside0.mk A30; clear A30
 by_cases c4 : t132 = 0
 rotate_left
 ·
  rw [if_neg c4] at H
  have c4b0 : (t132 == 0) = false := beq_eq_false_iff_ne.mpr c4
  have c4b1 : (t132 != 0) = true := bne_iff_ne.mpr c4
  obtain rfl := Option.some.inj H
  go_enter Tryz.func134, Tryz.ntmps134
  go_wp2_with (first | ((with_reducible refine gate_dst (N := 2) rfl ?_); (try (refine gate_guard (by rfl) ?_; dsimp only)); refine box_event ?hg (N := 2) ?hd (cs := #[.int .i64 a0_0, .string a0_1, .slice A0_2 l0_2.length c0_2]) (t := 123) ?hr ?_; (case hd => rfl); (case hg => rfl); (case hr => first | (go_simp; done) | (go_simp; rfl)); intro gb130 hg w15 hbox hb; have n0_ := Aside0.mk (below_step (by repeat (first | (with_reducible first | exact HB.out | apply below_alloc | apply pw_below_drewN | apply below_drew1) | exact HB.out)) hb); have n1_ := Aside0.mk (hbox); have n2_ := Aside0.mk ((by rw [hg]; exact (below_size (by repeat (first | (with_reducible first | exact HB.out | apply below_alloc | apply pw_below_drewN | apply below_drew1) | exact HB.out))) : w.heap.size ≤ gb130)); have n3_ := n2_; clear HB; have HB := n0_; have BK130 := n1_; have GW130 := n2_; have GE130 := n3_; clear n0_ n1_ n2_ n3_; clear hb hbox hg; obtain ⟨hcz16_0, hcz16_1, hcz16_2, hfz16_0, hfz16_1, hfz16_2⟩ := blkall_3 BK130.out) | ((with_reducible refine gate_callee (f := 157) rfl ?_); refine goesL_ (some 10) rfl rfl Tryz.func157 (by kernel_rfl) rfl #[.string a0_1] rfl (by (try simp only [List.map_toArray, List.map_cons, List.map_nil]); first | done | rfl | (simp only [List.length_drop, List.length_take]; rfl)) ?_; (with_reducible refine (rec_All.calls k a0_1 t131 t132 _ A3.out).mono ?_); rintro e w17 ⟨v133, rfl, ho0, hb⟩; refine ⟨_, rfl, ?_⟩; have n0_ := Aside0.mk (Kd.R_lower ho0 (below_size (by repeat (first | (with_reducible first | exact HB.out | apply below_alloc | apply pw_below_drewN | apply below_drew1 | refine below_setA ?_ ‹_›) | exact HB.out)))); have n1_ := Aside0.mk (blk_below (blk_up BK130.out) hb); have n2_ := Aside0.mk (below_step (by repeat (first | (with_reducible first | exact HB.out | apply below_alloc | apply pw_below_drewN | apply below_drew1 | refine below_setA ?_ ‹_›) | exact HB.out)) hb); clear BK130; clear HB; have HO134 := n0_; have BK130 := n1_; have HB := n2_; clear n0_ n1_ n2_; (try clear hb); (try clear hb2); (try clear hk); (try clear hi); (try clear ho0)))
  go_ret
  exact ⟨by first | rfl | (simp [errW_none, errW_some] <;> rfl) | (simp [*, errW_none, errW_some] <;> rfl), by repeat (first | (with_reducible first | exact HB.out | apply below_alloc | apply pw_below_drewN | apply below_drew1 | refine below_setA ?_ ‹_›) | exact HB.out)⟩
 rw [if_pos c4] at H
 have c4b0 : (t132 == 0) = true := beq_iff_eq.mpr c4
 have c4b1 : (t132 != 0) = false := bne_eq_false_iff_eq.mpr c4
 clear c4
 by_cases c5 : (l0_2.length : Int) > 0
 rotate_left
 ·
  rw [if_neg c5] at H
  have c5b0 : decide (0 < (l0_2.length : Int)) = false := decide_eq_false c5
  have c5b1 : decide (0 < l0_2.length) = false := decide_eq_false (by omega)
  clear c5
  obtain rfl := Option.some.inj H
  go_enter Tryz.func134, Tryz.ntmps134
  go_wp2_with (first | ((with_reducible refine gate_dst (N := 2) rfl ?_); (try (refine gate_guard (by rfl) ?_; dsimp only)); refine box_event ?hg (N := 2) ?hd (cs := #[.int .i64 a0_0, .string a0_1, .slice A0_2 l0_2.length c0_2]) (t := 123) ?hr ?_; (case hd => rfl); (case hg => rfl); (case hr => first | (go_simp; done) | (go_simp; rfl)); intro gb130 hg w11 hbox hb; have n0_ := Aside0.mk (below_step (by repeat (first | (with_reducible first | exact HB.out | apply below_alloc | apply pw_below_drewN | apply below_drew1) | exact HB.out)) hb); have n1_ := Aside0.mk (hbox); have n2_ := Aside0.mk ((by rw [hg]; exact (below_size (by repeat (first | (with_reducible first | exact HB.out | apply below_alloc | apply pw_below_drewN | apply below_drew1) | exact HB.out))) : w.heap.size ≤ gb130)); have n3_ := n2_; clear HB; have HB := n0_; have BK130 := n1_; have GW130 := n2_; have GE130 := n3_; clear n0_ n1_ n2_ n3_; clear hb hbox hg; obtain ⟨hcz12_0, hcz12_1, hcz12_2, hfz12_0, hfz12_1, hfz12_2⟩ := blkall_3 BK130.out) | ((with_reducible refine gate_callee (f := 157) rfl ?_); refine goesL_ (some 10) rfl rfl Tryz.func157 (by kernel_rfl) rfl #[.string a0_1] rfl (by (try simp only [List.map_toArray, List.map_cons, List.map_nil]); first | done | rfl | (simp only [List.length_drop, List.length_take]; rfl)) ?_; (with_reducible refine (rec_All.calls k a0_1 t131 t132 _ A3.out).mono ?_); rintro e w13 ⟨v133, rfl, ho0, hb⟩; refine ⟨_, rfl, ?_⟩; have n0_ := Aside0.mk (Kd.R_lower ho0 (below_size (by repeat (first | (with_reducible first | exact HB.out | apply below_alloc | apply pw_below_drewN | apply below_drew1 | refine below_setA ?_ ‹_›) | exact HB.out)))); have n1_ := Aside0.mk (blk_below (blk_up BK130.out) hb); have n2_ := Aside0.mk (below_step (by repeat (first | (with_reducible first | exact HB.out | apply below_alloc | apply pw_below_drewN | apply below_drew1 | refine below_setA ?_ ‹_›) | exact HB.out)) hb); clear BK130; clear HB; have HO134 := n0_; have BK130 := n1_; have HB := n2_; clear n0_ n1_ n2_; (try clear hb); (try clear hb2); (try clear hk); (try clear hi); (try clear ho0); obtain ⟨hcz14_0, hcz14_1, hcz14_2, hfz14_0, hfz14_1, hfz14_2⟩ := blkall_3 BK130.out))
  go_ret
  exact ⟨by first | rfl | (simp [errW_none, errW_some] <;> rfl) | (simp [*, errW_none, errW_some] <;> rfl), by repeat (first | (with_reducible first | exact HB.out | apply below_alloc | apply pw_below_drewN | apply below_drew1 | refine below_setA ?_ ‹_›) | exact HB.out)⟩
 rw [if_pos c5] at H
 have c5b0 : decide (0 < (l0_2.length : Int)) = true := decide_eq_true c5
 have c5b1 : decide (0 < l0_2.length) = true := decide_eq_true (by omega)
 clear c5
 replace H := Option.bind_eq_some_iff.mp H
 obtain ⟨t135, A60, H⟩ := H
 replace H : (some t135) = some r := H
 have A6 := Aside0.mk A60; clear A60
 obtain rfl := Option.some.inj H
 go_enter Tryz.func134, Tryz.ntmps134
 go_wp2_with (first | ((with_reducible refine gate_dst (N := 2) rfl ?_); (try (refine gate_guard (by rfl) ?_; dsimp only)); refine box_event ?hg (N := 2) ?hd (cs := #[.int .i64 a0_0, .string a0_1, .slice A0_2 l0_2.length c0_2]) (t := 123) ?hr ?_; (case hd => rfl); (case hg => rfl); (case hr => first | (go_simp; done) | (go_simp; rfl)); intro gb130 hg w7 hbox hb; have n0_ := Aside0.mk (below_step (by repeat (first | (with_reducible first | exact HB.out | apply below_alloc | apply pw_below_drewN | apply below_drew1) | exact HB.out)) hb); have n1_ := Aside0.mk (hbox); have n2_ := Aside0.mk ((by rw [hg]; exact (below_size (by repeat (first | (with_reducible first | exact HB.out | apply below_alloc | apply pw_below_drewN | apply below_drew1) | exact HB.out))) : w.heap.size ≤ gb130)); have n3_ := n2_; clear HB; have HB := n0_; have BK130 := n1_; have GW130 := n2_; have GE130 := n3_; clear n0_ n1_ n2_ n3_; clear hb hbox hg; obtain ⟨hcz8_0, hcz8_1, hcz8_2, hfz8_0, hfz8_1, hfz8_2⟩ := blkall_3 BK130.out) | ((with_reducible refine gate_callee (f := 157) rfl ?_); refine goesL_ (some 10) rfl rfl Tryz.func157 (by kernel_rfl) rfl #[.string a0_1] rfl (by (try simp only [List.map_toArray, List.map_cons, List.map_nil]); first | done | rfl | (simp only [List.length_drop, List.length_take]; rfl)) ?_; (with_reducible refine (rec_All.calls k a0_1 t131 t132 _ A3.out).mono ?_); rintro e w9 ⟨v133, rfl, ho0, hb⟩; refine ⟨_, rfl, ?_⟩; have n0_ := Aside0.mk (Kd.R_lower ho0 (below_size (by repeat (first | (with_reducible first | exact HB.out | apply below_alloc | apply pw_below_drewN | apply below_drew1 | refine below_setA ?_ ‹_›) | exact HB.out)))); have n1_ := Aside0.mk (blk_below (blk_up BK130.out) hb); have n2_ := Aside0.mk (below_step (by repeat (first | (with_reducible first | exact HB.out | apply below_alloc | apply pw_below_drewN | apply below_drew1 | refine below_setA ?_ ‹_›) | exact HB.out)) hb); clear BK130; clear HB; have HO134 := n0_; have BK130 := n1_; have HB := n2_; clear n0_ n1_ n2_; (try clear hb); (try clear hb2); (try clear hk); (try clear hi); (try clear ho0); obtain ⟨hcz10_0, hcz10_1, hcz10_2, hfz10_0, hfz10_1, hfz10_2⟩ := blkall_3 BK130.out) | (go_at_call 61; (with_reducible refine (split_Rising.calls k _ _ l0_2 a1 t135 _ ?side1 ?side2 A6.out).mono ?_); (case side1 => repeat (first | exact (Kd.C_below HR0_2.out HB.out) | (with_reducible refine Kd.C_alloc ?_ _) | (with_reducible refine Kd.C_drewN ?_ _) | (with_reducible refine Kd.C_drew ?_))); (case side2 => exact HC0_2.out); rintro e w' ⟨rfl, ⟨nd, rfl⟩⟩))
 go_ret
 exact ⟨by first | rfl | (simp [errW_none, errW_some] <;> rfl) | (simp [*, errW_none, errW_some] <;> rfl), by repeat (first | (with_reducible first | exact HB.out | apply below_alloc | apply pw_below_drewN | apply below_drew1 | refine below_setA ?_ ‹_›) | exact HB.out)⟩
mutual
def split_Check.j0 : Nat → Bool → Int → List (S123) → Int → Int → Option (Int)
 | 0, _, _, _, _, _ => none
 | k + 1, x3, x137000, x137001, x137002, x137003 => if x3 = true then (if x137002 ≥ 1 then (if x137002 ≤ 16 then (if x137003 ≥ 16 then (if x137003 ≤ 64 then (split_Check.j1 k (decide (x137003 ≥ (wrap64 (2 * x137002)))) x137000 x137001 x137002 x137003) else (split_Check.j1 k false x137000 x137001 x137002 x137003)) else (split_Check.j1 k false x137000 x137001 x137002 x137003)) else (split_Check.j1 k false x137000 x137001 x137002 x137003)) else (split_Check.j1 k false x137000 x137001 x137002 x137003)) else (split_Check.j1 k false x137000 x137001 x137002 x137003)
def split_Check.j1 : Nat → Bool → Int → List (S123) → Int → Int → Option (Int)
 | 0, _, _, _, _, _ => none
 | k + 1, x3, x137000, x137001, x137002, x137003 => if x3 = true then (if 0 ≤ (x137001.length : Int) then (if ((x137001.length : Int) : Int).toNat ≤ 35184372088832 then (split_Check.l0 k (List.replicate ((x137001.length : Int) : Int).toNat 0) x137001 (x137001.length : Int) 0 x137000 x137001 x137002 x137003) else (none)) else (none)) else (some 1)
def split_Check.l0 : Nat → List Int → List (S123) → Int → Int → Int → List (S123) → Int → Int → Option (Int)
 | 0, _, _, _, _, _, _, _, _ => none
 | k + 1, x4, x57, x58, x59, x137000, x137001, x137002, x137003 => if x59 < x58 then (if 0 ≤ x59 then (if x59 < (x57.length : Int) then (if x59 < (x4.length : Int) then ((split_may.f k ((rd_T123 x57 x59).f0) ((rd_T123 x57 x59).f1) ((rd_T123 x57 x59).f2) x137000).bind fun t143 => (if t143 = true then (split_Check.l0 k (x4.set (x59 : Int).toNat ((rd_T123 x57 x59).f0)) x57 x58 (wrap64 (x59 + 1)) x137000 x137001 x137002 x137003) else (some 1))) else (none)) else (none)) else (none)) else ((split_Rising.f k x4 1048576).bind fun t144 => (if t144 = true then (some 0) else (some 1)))
end
def split_Check.f (k : Nat) (a0_0 : Int) (l0_1 : List (S123)) (a0_2 : Int) (a0_3 : Int) : Option (Int) := if a0_0 ≥ 1 then (if a0_0 ≤ 3 then (split_Check.j0 k (decide ((l0_1.length : Int) ≤ 6)) a0_0 l0_1 a0_2 a0_3) else (split_Check.j0 k false a0_0 l0_1 a0_2 a0_3)) else (split_Check.j0 k false a0_0 l0_1 a0_2 a0_3)
set_option maxHeartbeats 8000000 in
set_option maxRecDepth 100000 in
theorem split_Check.calls (k : Nat) (a0_0 : Int) (A0_1 : Option Addr) (c0_1 : Nat) (l0_1 : List (S123)) (a0_2 : Int) (a0_3 : Int) (r : Int) (w : World) (hr0_1 : Kd.C k123 w A0_1 l0_1.length l0_1) (hc0_1 : l0_1.length ≤ c0_1) (h : split_Check.f k a0_0 l0_1 a0_2 a0_3 = some r) :
  Calls Tryz.prog 103 #[.agg #[.int .i64 a0_0, .slice A0_1 l0_1.length c0_1, .int .i64 a0_2, .int .i64 a0_3]] w fun e w' => e = .returned (.int .i64 r) ∧ Below w.heap.size w w' := by
 have hu51 := Tryz.underlying51; have hu123 := Tryz.underlying123; have HR0_1 := Aside0.mk hr0_1; have HC0_1 := Aside0.mk hc0_1; clear hr0_1 hc0_1
 have HB := Aside0.mk (Below.refl w.heap.size w)
 have H : (if a0_0 ≥ 1 then (if a0_0 ≤ 3 then (split_Check.j0 k (decide ((l0_1.length : Int) ≤ 6)) a0_0 l0_1 a0_2 a0_3) else (split_Check.j0 k false a0_0 l0_1 a0_2 a0_3)) else (split_Check.j0 k false a0_0 l0_1 a0_2 a0_3)) = some r := h
 clear h; have HC2 := Aside0.mk H; clear H
 go_enter Tryz.func103, Tryz.ntmps103
 go_upto_region 1 with (first | ((with_reducible refine gate_dst (N := 1) rfl ?_); (try (refine gate_guard (by rfl) ?_; dsimp only)); refine box_event ?hg (N := 1) ?hd (cs := #[.int .i64 a0_0, .slice A0_1 l0_1.length c0_1, .int .i64 a0_2, .int .i64 a0_3]) (t := 51) ?hr ?_; (case hd => rfl); (case hg => rfl); (case hr => first | (go_simp; done) | (go_simp; rfl)); intro gb136 hg w3 hbox hb; have n0_ := Aside0.mk (below_step (by repeat (first | (with_reducible first | exact HB.out | apply below_alloc | apply pw_below_drewN | apply below_drew1) | exact HB.out)) hb); have n1_ := Aside0.mk (hbox); have n2_ := Aside0.mk ((by rw [hg]; exact (below_size (by repeat (first | (with_reducible first | exact HB.out | apply below_alloc | apply pw_below_drewN | apply below_drew1) | exact HB.out))) : w.heap.size ≤ gb136)); have n3_ := n2_; clear HB; have HB := n0_; have BK136 := n1_; have GW136 := n2_; have GE136 := n3_; clear n0_ n1_ n2_ n3_; clear hb hbox hg))
 (try simp only [Act.put, List.setIfInBounds_toArray, List.set_cons_zero, List.set_cons_succ])
 go_cut [3] (fun v3 wc => ∃ (kq : Nat) (x3_1 : Bool), v3 = .bool x3_1 ∧ Aside0 (split_Check.j0 kq x3_1 a0_0 l0_1 a0_2 a0_3 = some r) ∧ Aside0 (kq ≤ k) ∧ Aside0 (wc.heap[gb136]? = some (.cells #[.int .i64 a0_0, (.slice A0_1 l0_1.length c0_1), .int .i64 a0_2, .int .i64 a0_3] 51 (0, 0))) ∧ Aside0 (Below w.heap.size w wc))
 case first =>
  have H := HC2.out; clear HC2
  by_cases c4 : a0_0 ≥ 1
  rotate_left
  ·
   rw [if_neg c4] at H
   have c4b0 : decide (1 ≤ a0_0) = false := decide_eq_false c4
   clear c4
   (first | rw [c4b0] | (simp only [i64_w, i32_w]; rw [c4b0]) | skip)
   have H' := Aside0.mk H
   clear H
   obtain ⟨hcz8_0, hcz8_1, hcz8_2, hcz8_3, hfz8_0, hfz8_1, hfz8_2, hfz8_3⟩ := blkall_4 BK136.out
   go_wp2
   go_meet
   case rel => exact ⟨_, (false), (by first | rfl | (simp; done) | (simp [*]; done)), H', ⟨by first | omega | exact Nat.le_refl _⟩, ⟨blk_up BK136.out⟩, ⟨by repeat (first | (with_reducible first | exact HB.out | apply below_alloc | apply pw_below_drewN | apply below_drew1 | refine below_setA ?_ ‹_›) | exact HB.out)⟩⟩
  rw [if_pos c4] at H
  have c4b0 : decide (1 ≤ a0_0) = true := decide_eq_true c4
  clear c4
  (first | rw [c4b0] | (simp only [i64_w, i32_w]; rw [c4b0]) | skip)
  by_cases c5 : a0_0 ≤ 3
  rotate_left
  ·
   rw [if_neg c5] at H
   have c5b0 : decide (a0_0 ≤ 3) = false := decide_eq_false c5
   clear c5
   have H' := Aside0.mk H
   clear H
   obtain ⟨hcz7_0, hcz7_1, hcz7_2, hcz7_3, hfz7_0, hfz7_1, hfz7_2, hfz7_3⟩ := blkall_4 BK136.out
   go_wp2
   go_meet
   case rel => exact ⟨_, (false), (by first | rfl | (simp; done) | (simp [*]; done)), H', ⟨by first | omega | exact Nat.le_refl _⟩, ⟨blk_up BK136.out⟩, ⟨by repeat (first | (with_reducible first | exact HB.out | apply below_alloc | apply pw_below_drewN | apply below_drew1 | refine below_setA ?_ ‹_›) | exact HB.out)⟩⟩
  rw [if_pos c5] at H
  have c5b0 : decide (a0_0 ≤ 3) = true := decide_eq_true c5
  clear c5
  have H' := Aside0.mk H
  clear H
  obtain ⟨hcz6_0, hcz6_1, hcz6_2, hcz6_3, hfz6_0, hfz6_1, hfz6_2, hfz6_3⟩ := blkall_4 BK136.out
  go_wp2
  go_meet
  case rel => exact ⟨_, (decide ((l0_1.length : Int) ≤ 6)), (by first | rfl | (simp; done) | (simp [*]; done)), H', ⟨by first | omega | exact Nat.le_refl _⟩, ⟨blk_up BK136.out⟩, ⟨by repeat (first | (with_reducible first | exact HB.out | apply below_alloc | apply pw_below_drewN | apply below_drew1 | refine below_setA ?_ ‹_›) | exact HB.out)⟩⟩
 case rest =>
  clear HC2
  obtain ⟨kq, x3_1, rfl, HA, HJ1, BK136, HB⟩ := hcut
  cases kq with
  | zero => exact absurd HA.out (by simp [split_Check.j0])
  | succ kj1 =>
   have H := HA.out; clear HA
   simp only [split_Check.j0] at H
   have HC9 := Aside0.mk H; clear H
   go_upto_region 2 with (fail)
   go_cut [3] (fun v3 wc => ∃ (kq : Nat) (x3_8 : Bool), v3 = .bool x3_8 ∧ Aside0 (split_Check.j1 kq x3_8 a0_0 l0_1 a0_2 a0_3 = some r) ∧ Aside0 (kq ≤ kj1) ∧ Aside0 (wc.heap[gb136]? = some (.cells #[.int .i64 a0_0, (.slice A0_1 l0_1.length c0_1), .int .i64 a0_2, .int .i64 a0_3] 51 (0, 0))) ∧ Aside0 (Below w.heap.size w wc))
   case first =>
    have H := HC9.out; clear HC9
    by_cases c10 : x3_1 = true
    rotate_left
    ·
     replace c10 := Bool.eq_false_iff.mpr c10
     subst c10
     have H1 : (split_Check.j1 kj1 false a0_0 l0_1 a0_2 a0_3) = some r := by rw [if_neg (show ¬ (false = true) by decide)] at H; exact H
     clear H; have H := H1; clear H1
     have H' := Aside0.mk H
     clear H
     go_wp2
     go_meet
     case rel => exact ⟨_, (false), (by first | rfl | (simp; done) | (simp [*]; done)), H', ⟨by have := HJ1.out; first | omega | exact Nat.le_refl _⟩, ⟨blk_up BK136.out⟩, ⟨by repeat (first | (with_reducible first | exact HB.out | apply below_alloc | apply pw_below_drewN | apply below_drew1 | refine below_setA ?_ ‹_›) | exact HB.out)⟩⟩
    subst c10
    have H1 : (if a0_2 ≥ 1 then (if a0_2 ≤ 16 then (if a0_3 ≥ 16 then (if a0_3 ≤ 64 then (split_Check.j1 kj1 (decide (a0_3 ≥ (wrap64 (2 * a0_2)))) a0_0 l0_1 a0_2 a0_3) else (split_Check.j1 kj1 false a0_0 l0_1 a0_2 a0_3)) else (split_Check.j1 kj1 false a0_0 l0_1 a0_2 a0_3)) else (split_Check.j1 kj1 false a0_0 l0_1 a0_2 a0_3)) else (split_Check.j1 kj1 false a0_0 l0_1 a0_2 a0_3)) = some r := by rw [if_pos rfl] at H; exact H
    clear H; have H := H1; clear H1
    by_cases c11 : a0_2 ≥ 1
    rotate_left
    ·
     rw [if_neg c11] at H
     have c11b0 : decide (1 ≤ a0_2) = false := decide_eq_false c11
     clear c11
     (first | rw [c11b0] | (simp only [i64_w, i32_w]; rw [c11b0]) | skip)
     have H' := Aside0.mk H
     clear H
     obtain ⟨hcz19_0, hcz19_1, hcz19_2, hcz19_3, hfz19_0, hfz19_1, hfz19_2, hfz19_3⟩ := blkall_4 BK136.out
     go_wp2
     go_meet
     case rel => exact ⟨_, (false), (by first | rfl | (simp; done) | (simp [*]; done)), H', ⟨by have := HJ1.out; first | omega | exact Nat.le_refl _⟩, ⟨blk_up BK136.out⟩, ⟨by repeat (first | (with_reducible first | exact HB.out | apply below_alloc | apply pw_below_drewN | apply below_drew1 | refine below_setA ?_ ‹_›) | exact HB.out)⟩⟩
    rw [if_pos c11] at H
    have c11b0 : decide (1 ≤ a0_2) = true := decide_eq_true c11
    clear c11
    (first | rw [c11b0] | (simp only [i64_w, i32_w]; rw [c11b0]) | skip)
    by_cases c12 : a0_2 ≤ 16
    rotate_left
    ·
     rw [if_neg c12] at H
     have c12b0 : decide (a0_2 ≤ 16) = false := decide_eq_false c12
     clear c12
     have H' := Aside0.mk H
     clear H
     obtain ⟨hcz18_0, hcz18_1, hcz18_2, hcz18_3, hfz18_0, hfz18_1, hfz18_2, hfz18_3⟩ := blkall_4 BK136.out
     go_wp2
     go_meet
     case rel => exact ⟨_, (false), (by first | rfl | (simp; done) | (simp [*]; done)), H', ⟨by have := HJ1.out; first | omega | exact Nat.le_refl _⟩, ⟨blk_up BK136.out⟩, ⟨by repeat (first | (with_reducible first | exact HB.out | apply below_alloc | apply pw_below_drewN | apply below_drew1 | refine below_setA ?_ ‹_›) | exact HB.out)⟩⟩
    rw [if_pos c12] at H
    have c12b0 : decide (a0_2 ≤ 16) = true := decide_eq_true c12
    clear c12
    by_cases c13 : a0_3 ≥ 16
    rotate_left
    ·
     rw [if_neg c13] at H
     have c13b0 : decide (16 ≤ a0_3) = false := decide_eq_false c13
     clear c13
     have H' := Aside0.mk H
     clear H
     obtain ⟨hcz17_0, hcz17_1, hcz17_2, hcz17_3, hfz17_0, hfz17_1, hfz17_2, hfz17_3⟩ := blkall_4 BK136.out
     go_wp2
     go_meet
     case rel => exact ⟨_, (false), (by first | rfl | (simp; done) | (simp [*]; done)), H', ⟨by have := HJ1.out; first | omega | exact Nat.le_refl _⟩, ⟨blk_up BK136.out⟩, ⟨by repeat (first | (with_reducible first | exact HB.out | apply below_alloc | apply pw_below_drewN | apply below_drew1 | refine below_setA ?_ ‹_›) | exact HB.out)⟩⟩
    rw [if_pos c13] at H
    have c13b0 : decide (16 ≤ a0_3) = true := decide_eq_true c13
    clear c13
    by_cases c14 : a0_3 ≤ 64
    rotate_left
    ·
     rw [if_neg c14] at H
     have c14b0 : decide (a0_3 ≤ 64) = false := decide_eq_false c14
     clear c14
     have H' := Aside0.mk H
     clear H
     obtain ⟨hcz16_0, hcz16_1, hcz16_2, hcz16_3, hfz16_0, hfz16_1, hfz16_2, hfz16_3⟩ := blkall_4 BK136.out
     go_wp2
     go_meet
     case rel => exact ⟨_, (false), (by first | rfl | (simp; done) | (simp [*]; done)), H', ⟨by have := HJ1.out; first | omega | exact Nat.le_refl _⟩, ⟨blk_up BK136.out⟩, ⟨by repeat (first | (with_reducible first | exact HB.out | apply below_alloc | apply pw_below_drewN | apply below_drew1 | refine below_setA ?_ ‹_›) | exact HB.out)⟩⟩
    rw [if_pos c14] at H
    have c14b0 : decide (a0_3 ≤ 64) = true := decide_eq_true c14
    clear c14
    have H' := Aside0.mk H
    clear H
    obtain ⟨hcz15_0, hcz15_1, hcz15_2, hcz15_3, hfz15_0, hfz15_1, hfz15_2, hfz15_3⟩ := blkall_4 BK136.out
    go_wp2
    go_meet
    case rel => exact ⟨_, (decide (a0_3 ≥ (wrap64 (2 * a0_2)))), (by first | rfl | (simp; done) | (simp [*]; done)), H', ⟨by have := HJ1.out; first | omega | exact Nat.le_refl _⟩, ⟨blk_up BK136.out⟩, ⟨by repeat (first | (with_reducible first | exact HB.out | apply below_alloc | apply pw_below_drewN | apply below_drew1 | refine below_setA ?_ ‹_›) | exact HB.out)⟩⟩
   case rest =>
    clear HC9
    obtain ⟨kq, x3_8, rfl, HA, HJ8, BK136, HB⟩ := hcut
    cases kq with
    | zero => exact absurd HA.out (by simp [split_Check.j1])
    | succ kj8 =>
     have H := HA.out; clear HA
     simp only [split_Check.j1] at H
     by_cases c20 : x3_8 = true
     rotate_left
     ·
      replace c20 := Bool.eq_false_iff.mpr c20
      subst c20
      have H1 : (some 1) = some r := by rw [if_neg (show ¬ (false = true) by decide)] at H; exact H
      clear H; have H := H1; clear H1
      obtain rfl := Option.some.inj H
      go_wp2
      go_ret
      exact ⟨by first | rfl | (simp [errW_none, errW_some] <;> rfl) | (simp [*, errW_none, errW_some] <;> rfl), by repeat (first | (with_reducible first | exact HB.out | apply below_alloc | apply pw_below_drewN | apply below_drew1 | refine below_setA ?_ ‹_›) | exact HB.out)⟩
     subst c20
     have H1 : (if 0 ≤ (l0_1.length : Int) then (if ((l0_1.length : Int) : Int).toNat ≤ 35184372088832 then (split_Check.l0 kj8 (List.replicate ((l0_1.length : Int) : Int).toNat 0) l0_1 (l0_1.length : Int) 0 a0_0 l0_1 a0_2 a0_3) else (none)) else (none)) = some r := by rw [if_pos rfl] at H; exact H
     clear H; have H := H1; clear H1
     by_cases c21 : 0 ≤ (l0_1.length : Int)
     rotate_left
     ·
      rw [if_neg c21] at H
      exact absurd H (by simp)
     rw [if_pos c21] at H
     have c21b0 := eq_true c21
     have c21b1 : decide (0 ≤ (l0_1.length : Int)) = true := decide_eq_true c21
     clear c21
     by_cases c22 : ((l0_1.length : Int) : Int).toNat ≤ 35184372088832
     rotate_left
     ·
      rw [if_neg c22] at H
      exact absurd H (by simp)
     rw [if_pos c22] at H
     have c22b0 := eq_true c22
     have c22b1 : decide (((l0_1.length : Int) : Int).toNat ≤ 35184372088832) = true := decide_eq_true c22
     clear c22
     obtain ⟨y137, hy137⟩ : ∃ y_ : List Int, y_ = (List.replicate ((l0_1.length : Int) : Int).toNat 0) := ⟨_, rfl⟩
     replace H : (split_Check.l0 kj8 y137 l0_1 (l0_1.length : Int) 0 a0_0 l0_1 a0_2 a0_3) = some r := by first | (rw [hy137]; with_reducible exact H) | (have H2_ := (Option.bind_some _ _).symm.trans H; rw [hy137]; with_reducible exact H2_) | (have H2_ := (Option.bind_some _ _).symm.trans H; with_reducible exact H2_) | with_reducible exact H | (rw [hy137]; exact H) | exact H
     have Ny137 := Aside0.mk hy137; clear hy137
     have H' := Aside0.mk H
     clear H
     obtain ⟨hcz23_0, hcz23_1, hcz23_2, hcz23_3, hfz23_0, hfz23_1, hfz23_2, hfz23_3⟩ := blkall_4 BK136.out
     go_wp2_with (first | ((with_reducible refine gate_dst (N := 55) rfl ?_); (try (refine gate_guard (by rfl) ?_; dsimp only)); refine Kd.R_make (Kd.int .i64) _ 3 rfl (N := 55) rfl 52 _ _ rfl (l0_1.length : Int) rfl rfl Tryz.underlying52 (.int .i64 0) 8 info3 rfl (by decide) (by omega) 0 (ok := fun _ => True) (okp := fun _ => True) rfl (fun _ hk => hk) trivial (of_decide_eq_true (by first | (with_reducible assumption) | assumption)) (Nat.le_trans (Nat.mul_le_mul_right _ (of_decide_eq_true (by first | (with_reducible assumption) | assumption) : (l0_1.length : Int).toNat ≤ 35184372088832)) (by omega)) (Below.refl _ _) (Nat.le_refl _) ?_; intro v138 w24 ho25 hb hg_ hnew_; clear hg_ hnew_; (first | rw [← Ny137.out] at ho25 | (simp only [Int.reduceToNat] at ho25; rw [← Ny137.out] at ho25)); have n0_ := Aside0.mk (Kd.R_lower ho25 (below_size (by repeat (first | (with_reducible first | exact HB.out | apply below_alloc | apply pw_below_drewN | apply below_drew1 | refine below_setA ?_ ‹_›) | exact HB.out)))); have n1_ := Aside0.mk (blk_below (blk_up BK136.out) hb); have n2_ := Aside0.mk (below_step (by repeat (first | (with_reducible first | exact HB.out | apply below_alloc | apply pw_below_drewN | apply below_drew1 | refine below_setA ?_ ‹_›) | exact HB.out)) hb); clear BK136; clear HB; have HO139 := n0_; have BK136 := n1_; have HB := n2_; clear n0_ n1_ n2_; clear hb ho25; obtain ⟨hcz26_0, hcz26_1, hcz26_2, hcz26_3, hfz26_0, hfz26_1, hfz26_2, hfz26_3⟩ := blkall_4 BK136.out))
     go_loopg [59] kj8 (fun kq v59 w' => ∃ (x4_3 : List Int) (x59_3 : Int), v59 = .int .i64 x59_3 ∧ Aside0 (split_Check.l0 kq x4_3 l0_1 (l0_1.length : Int) x59_3 a0_0 l0_1 a0_2 a0_3 = some r) ∧ Aside0 (kq ≤ kj8) ∧ Aside0 (Kd.R (Kd.int .i64) 3 w' w.heap.size (fun _ => True) v138 x4_3) ∧ Aside0 (w'.heap[gb136]? = some (.cells #[.int .i64 a0_0, (.slice A0_1 l0_1.length c0_1), .int .i64 a0_2, .int .i64 a0_3] 51 (0, 0))) ∧ Aside0 (Below w.heap.size w w'))
     case atStart => exact ⟨(y137), (0), (by first | rfl | (simp; done) | (simp [*]; done)), H', ⟨Nat.le_refl _⟩, ⟨by (with_reducible repeat (first | apply Kd.R_alloc | apply Kd.R_drewN | apply Kd.R_drew)); exact HO139.out⟩, ⟨blk_up BK136.out⟩, ⟨by repeat (first | (with_reducible first | exact HB.out | apply below_alloc | apply pw_below_drewN | apply below_drew1 | refine below_setA ?_ ‹_›) | exact HB.out)⟩⟩
     case round =>
      clear H'
      (try clear c20); (try clear c21); (try clear c21b0); (try clear c21b1); (try clear c22); (try clear c22b0); (try clear c22b1); (try clear hcz23_0); (try clear hcz23_1); (try clear hcz23_2); (try clear hcz23_3); (try clear hcz26_0); (try clear hcz26_1); (try clear hcz26_2); (try clear hcz26_3); (try clear hfz23_0); (try clear hfz23_1); (try clear hfz23_2); (try clear hfz23_3); (try clear hfz26_0); (try clear hfz26_1); (try clear hfz26_2); (try clear hfz26_3)
      obtain ⟨x4_3, x59_3, rfl, HA, HK3, HO_4, BK136, HB⟩ := hrel
      cases gk with
      | zero => exact absurd HA.out (by simp [split_Check.l0])
      | succ k3 =>
       have H := HA.out; clear HA
       simp only [split_Check.l0] at H
       by_cases c27 : x59_3 < (l0_1.length : Int)
       rotate_left
       ·
        rw [if_neg c27] at H
        have c27b0 : decide (x59_3 < (l0_1.length : Int)) = false := decide_eq_false c27
        clear c27
        replace H := Option.bind_eq_some_iff.mp H
        obtain ⟨t144, A540, H⟩ := H
        replace H : (if t144 = true then (some 0) else (some 1)) = some r := H
        have A54 := Aside0.mk A540; clear A540
        by_cases c55 : t144 = true
        ·
         subst c55
         have H1 : (some 0) = some r := by rw [if_pos rfl] at H; exact H
         clear H; have H := H1; clear H1
         obtain rfl := Option.some.inj H
         obtain ⟨Ao56, co56, eo56⟩ := Kd.R_slice HO_4.out
         subst eo56
         go_wp2_with (first | ((with_reducible refine gate_callee (f := 61) rfl ?_); refine goesL_ (some 76) rfl rfl Tryz.func61 (by kernel_rfl) rfl #[.slice Ao56 x4_3.length co56, .int .i64 1048576] rfl (by (try simp only [List.map_toArray, List.map_cons, List.map_nil]); first | done | rfl | (simp only [List.length_drop, List.length_take]; rfl)) ?_; (with_reducible refine (split_Rising.calls k3 _ _ x4_3 1048576 true _ ?side1 ?side2 A54.out).mono ?_); (case side1 => repeat (first | exact (Kd.R_reads' HO_4.out).2.2 | (with_reducible refine Kd.C_alloc ?_ _) | (with_reducible refine Kd.C_drewN ?_ _) | (with_reducible refine Kd.C_drew ?_))); (case side2 => exact (Kd.R_reads' HO_4.out).2.1); rintro e w' ⟨rfl, ⟨nd, rfl⟩⟩; refine ⟨_, rfl, ?_⟩))
         go_ret
         exact ⟨by first | rfl | (simp [errW_none, errW_some] <;> rfl) | (simp [*, errW_none, errW_some] <;> rfl), by repeat (first | (with_reducible first | exact HB.out | apply below_alloc | apply pw_below_drewN | apply below_drew1 | refine below_setA ?_ ‹_›) | exact HB.out)⟩
        replace c55 := Bool.eq_false_iff.mpr c55
        subst c55
        have H1 : (some 1) = some r := by rw [if_neg (show ¬ (false = true) by decide)] at H; exact H
        clear H; have H := H1; clear H1
        obtain rfl := Option.some.inj H
        obtain ⟨Ao57, co57, eo57⟩ := Kd.R_slice HO_4.out
        subst eo57
        go_wp2_with (first | ((with_reducible refine gate_callee (f := 61) rfl ?_); refine goesL_ (some 76) rfl rfl Tryz.func61 (by kernel_rfl) rfl #[.slice Ao57 x4_3.length co57, .int .i64 1048576] rfl (by (try simp only [List.map_toArray, List.map_cons, List.map_nil]); first | done | rfl | (simp only [List.length_drop, List.length_take]; rfl)) ?_; (with_reducible refine (split_Rising.calls k3 _ _ x4_3 1048576 false _ ?side1 ?side2 A54.out).mono ?_); (case side1 => repeat (first | exact (Kd.R_reads' HO_4.out).2.2 | (with_reducible refine Kd.C_alloc ?_ _) | (with_reducible refine Kd.C_drewN ?_ _) | (with_reducible refine Kd.C_drew ?_))); (case side2 => exact (Kd.R_reads' HO_4.out).2.1); rintro e w' ⟨rfl, ⟨nd, rfl⟩⟩; refine ⟨_, rfl, ?_⟩))
        go_ret
        exact ⟨by first | rfl | (simp [errW_none, errW_some] <;> rfl) | (simp [*, errW_none, errW_some] <;> rfl), by repeat (first | (with_reducible first | exact HB.out | apply below_alloc | apply pw_below_drewN | apply below_drew1 | refine below_setA ?_ ‹_›) | exact HB.out)⟩
       rw [if_pos c27] at H
       have c27b0 : decide (x59_3 < (l0_1.length : Int)) = true := decide_eq_true c27
       clear c27
       by_cases c28 : 0 ≤ x59_3
       rotate_left
       ·
        rw [if_neg c28] at H
        exact absurd H (by simp)
       rw [if_pos c28] at H
       have c28b0 : decide (0 ≤ x59_3) = true := decide_eq_true c28
       clear c28
       by_cases c29 : x59_3 < (l0_1.length : Int)
       rotate_left
       ·
        rw [if_neg c29] at H
        exact absurd H (by simp)
       rw [if_pos c29] at H
       have c29b0 : decide (x59_3 < (l0_1.length : Int)) = true := decide_eq_true c29
       clear c29
       by_cases c30 : x59_3 < (x4_3.length : Int)
       rotate_left
       ·
        rw [if_neg c30] at H
        exact absurd H (by simp)
       rw [if_pos c30] at H
       have c30b0 : decide (x59_3 < (x4_3.length : Int)) = true := decide_eq_true c30
       clear c30
       obtain ⟨y142, hy142⟩ : ∃ y_ : List Int, y_ = (x4_3.set (x59_3 : Int).toNat ((rd_T123 l0_1 x59_3).f0)) := ⟨_, rfl⟩
       replace H : ((split_may.f k3 ((rd_T123 l0_1 x59_3).f0) ((rd_T123 l0_1 x59_3).f1) ((rd_T123 l0_1 x59_3).f2) a0_0).bind fun t143 => (if t143 = true then (split_Check.l0 k3 y142 l0_1 (l0_1.length : Int) (wrap64 (x59_3 + 1)) a0_0 l0_1 a0_2 a0_3) else (some 1))) = some r := by first | (rw [hy142]; with_reducible exact H) | (have H2_ := (Option.bind_some _ _).symm.trans H; rw [hy142]; with_reducible exact H2_) | (have H2_ := (Option.bind_some _ _).symm.trans H; with_reducible exact H2_) | with_reducible exact H | (rw [hy142]; exact H) | exact H
       have Ny142 := Aside0.mk hy142; clear hy142
       replace H := Option.bind_eq_some_iff.mp H
       obtain ⟨t143, A320, H⟩ := H
       replace H : (if t143 = true then (split_Check.l0 k3 y142 l0_1 (l0_1.length : Int) (wrap64 (x59_3 + 1)) a0_0 l0_1 a0_2 a0_3) else (some 1)) = some r := H
       have A32 := Aside0.mk A320; clear A320
       by_cases c33 : t143 = true
       rotate_left
       ·
        replace c33 := Bool.eq_false_iff.mpr c33
        subst c33
        have H1 : (some 1) = some r := by rw [if_neg (show ¬ (false = true) by decide)] at H; exact H
        clear H; have H := H1; clear H1
        obtain rfl := Option.some.inj H
        have p140 : 0 ≤ (x59_3 : Int) := of_decide_eq_true (by first | (with_reducible assumption) | assumption)
        have q140 : x59_3 < (l0_1.length : Int) := of_decide_eq_true (by first | (with_reducible assumption) | assumption)
        obtain ⟨ad140, A140_2, c140_2, e140, hx140_0, hx140_1, hx140_2, hl140_2, hi140_2⟩ := at_T123 HR0_1.out x59_3 p140 q140
        cases e140
        replace hx140_0 := (HB.out.cell (World.block_lt_of_cell? w _ hx140_0)).trans hx140_0
        replace hx140_1 := (HB.out.cell (World.block_lt_of_cell? w _ hx140_1)).trans hx140_1
        replace hx140_2 := (HB.out.cell (World.block_lt_of_cell? w _ hx140_2)).trans hx140_2
        have HR140_2 := Aside0.mk hi140_2; have HC140_2 := Aside0.mk hl140_2; clear hi140_2 hl140_2
        replace p140 := eq_true p140
        replace q140 := eq_true q140
        go_wp2_with (first | ((with_reducible refine gate_dst (N := 6) rfl ?_); (try (refine gate_guard (by rfl) ?_; dsimp only)); refine box_event ?hg (N := 6) ?hd (cs := #[.int .i64 0, .string (⟨#[]⟩ : ByteArray), .slice none 0 0]) (t := 123) ?hr ?_; (case hd => rfl); (case hg => rfl); (case hr => first | (go_simp; done) | (go_simp; rfl)); intro gb141 hg w44 hbox hb; have n0_ := Aside0.mk (Kd.R_below (by (with_reducible repeat (first | apply Kd.R_alloc | apply Kd.R_drewN | apply Kd.R_drew)); exact HO_4.out) hb); have n1_ := Aside0.mk (blk_below (blk_up BK136.out) hb); have n2_ := Aside0.mk (below_step (by repeat (first | (with_reducible first | exact HB.out | apply below_alloc | apply pw_below_drewN | apply below_drew1 | refine below_setA ?_ ‹_›) | exact HB.out)) hb); have n3_ := Aside0.mk (hbox); have n4_ := Aside0.mk ((by rw [hg]; exact (below_size (by repeat (first | (with_reducible first | exact HB.out | apply below_alloc | apply pw_below_drewN | apply below_drew1 | refine below_setA ?_ ‹_›) | exact HB.out))) : w.heap.size ≤ gb141)); have n5_ := n4_; have n6_ := Aside0.mk ((by rw [hg]; exact Nat.ne_of_lt (blk_lt (blk_up BK136.out)) : gb136 ≠ gb141)); have n7_ := Aside0.mk ((by rw [hg]; exact Nat.ne_of_gt (blk_lt (blk_up BK136.out)) : gb141 ≠ gb136)); clear HO_4; clear BK136; clear HB; have HO_4 := n0_; have BK136 := n1_; have HB := n2_; have BK141 := n3_; have GW141 := n4_; have GE141 := n5_; have NB136_141 := n6_; have NB141_136 := n7_; clear n0_ n1_ n2_ n3_ n4_ n5_ n6_ n7_; clear hb hbox hg; have hnb45 := NB141_136.out; have hnc45 := NB136_141.out; obtain ⟨hcz46_0, hcz46_1, hcz46_2, hfz46_0, hfz46_1, hfz46_2⟩ := blkall_3 BK141.out) | ((with_reducible refine gate_store (t := 123) (p := 6) rfl ?_); refine store_event (t := 123) (p := 6) (v := ?vo_w47) (w1 := (((w44.setCell ⟨gb141, 0, none⟩ (.int .i64 ((rd_T123 l0_1 x59_3).f0))).setCell ⟨gb141, 1, none⟩ (.string ((rd_T123 l0_1 x59_3).f1))).setCell ⟨gb141, 2, none⟩ (.slice A140_2 ((rd_T123 l0_1 x59_3).f2).length c140_2))) ?hg ?ho ?hn ?hr ?_; (case ho => rfl); (case hg => rfl); (case hn => rfl); (case hr => first | (go_simp; done) | (go_simp; rfl)); intro w47 hw; have n0_ : Aside0 (Kd.R (Kd.int .i64) 3 w47 w.heap.size (fun _ => True) v138 x4_3) := ⟨(by rw [hw]; exact (by (with_reducible repeat (first | apply Kd.R_alloc | apply Kd.R_drewN | apply Kd.R_drew)); exact Kd.R_mono (Kd.R_far (p := ⟨gb141, 2, none⟩) (Kd.R_far (p := ⟨gb141, 1, none⟩) (Kd.R_far (p := ⟨gb141, 0, none⟩) (Kd.R_types HO_4.out BK141.out (by decide)) (fun _ hk => hk.2) (.int .i64 ((rd_T123 l0_1 x59_3).f0))) (fun _ hk => hk.2) (.string ((rd_T123 l0_1 x59_3).f1))) (fun _ hk => hk.2) (.slice A140_2 ((rd_T123 l0_1 x59_3).f2).length c140_2)) (fun _ hk => trivial)))⟩; have n1_ : Aside0 (w47.heap[gb136]? = some (.cells #[.int .i64 a0_0, .slice (some ad140) l0_1.length c0_1, .int .i64 a0_2, .int .i64 a0_3] 51 (0, 0))) := ⟨(by rw [hw]; exact (by (with_reducible repeat (first | refine blk_drewN ?_ _ | refine blk_drew ?_ | refine blk_alloc ?_ _ | refine blk_far ?_ NB136_141.out _)); exact BK136.out))⟩; have n2_ : Aside0 (w47.heap[gb141]? = some (.cells #[.int .i64 ((rd_T123 l0_1 x59_3).f0), .string ((rd_T123 l0_1 x59_3).f1), .slice A140_2 ((rd_T123 l0_1 x59_3).f2).length c140_2] 123 (0, 0))) := ⟨(by rw [hw]; exact (by refine blk_up ?_; refine blk_put (cs := #[.int .i64 ((rd_T123 l0_1 x59_3).f0), .string ((rd_T123 l0_1 x59_3).f1), .slice none 0 0]) ?_ 2 _ rfl; refine blk_up ?_; refine blk_put (cs := #[.int .i64 ((rd_T123 l0_1 x59_3).f0), .string (⟨#[]⟩ : ByteArray), .slice none 0 0]) ?_ 1 _ rfl; refine blk_up ?_; refine blk_put (cs := #[.int .i64 0, .string (⟨#[]⟩ : ByteArray), .slice none 0 0]) ?_ 0 _ rfl; refine blk_up ?_; exact BK141.out))⟩; have n3_ : Aside0 (Below w.heap.size w w47) := ⟨(by rw [hw]; exact (by repeat (first | (with_reducible first | exact HB.out | apply below_alloc | apply pw_below_drewN | apply below_drew1 | refine below_setA ?_ ‹_›) | exact HB.out)))⟩; clear hw; clear HO_4; clear BK136; clear BK141; clear HB; have HO_4 := n0_; have BK136 := n1_; have BK141 := n2_; have HB := n3_; clear n0_ n1_ n2_ n3_; obtain ⟨hcz48_0, hcz48_1, hcz48_2, hfz48_0, hfz48_1, hfz48_2⟩ := blkall_3 BK141.out; have p31 : 0 ≤ (x59_3 : Int) := of_decide_eq_true (by first | (with_reducible assumption) | assumption); have q31 : (x59_3 : Int) < ((x4_3.length : Int) : Int) := of_decide_eq_true (by first | (with_reducible assumption) | assumption); obtain ⟨go31, co31, eo31, gb31, gl31, cl31, HG31⟩ := Kd.R_form HO_4.out (by omega); (first | cases eo31 | (injection eo31 with ea_ en_ ec_; (first | subst ea_ | (injection ea_ with ea_; subst ea_)); subst ec_; clear en_)); have GB31 := Aside0.mk gb31; have GG31 := Aside0.mk HG31; clear gb31 gl31 HG31; obtain ⟨hx31_0, hf31_0⟩ := Kd.R_celln 0 HO_4.out (x59_3 : Int) p31 q31; replace p31 := eq_true p31; replace q31 := eq_true q31; obtain ⟨hy49_, hz49_⟩ := Kd.R_celln 0 HO_4.out (x59_3 : Int) (of_decide_eq_true (by first | (with_reducible assumption) | assumption)) (of_decide_eq_true (by first | (with_reducible assumption) | assumption)); have HP49 := Kd.R_putg HO_4.out (x59_3 : Int) ((rd_T123 l0_1 x59_3).f0)) | ((with_reducible refine gate_store (t := 3) (p := 68) rfl ?_); refine store_event (t := 3) (p := 68) (v := ?vo_w50) (w1 := (w47.setCell ⟨go31, (x59_3 : Int).toNat, none⟩ (.int .i64 ((rd_T123 l0_1 x59_3).f0)))) ?hg ?ho ?hn ?hr ?_; (case ho => rfl); (case hg => rfl); (case hn => rfl); (case hr => first | (go_simp; done) | (go_simp; rfl)); intro w50 hw; have hg : w47.grownBy w50 (some go31) := (by rw [hw]; exact HP49.2); have hp_ : Kd.R (Kd.int .i64) 3 w50 w.heap.size (fun _ => True) (.slice (some ⟨go31, 0, none⟩) x4_3.length co31) y142 := (by rw [hw, Ny142.out]; exact HP49.1); clear HP49; have n0_ := Aside0.mk (hp_); have n1_ := Aside0.mk (blk_grown (blk_up BK136.out) hg (Kd.R_ne HO_4.out BK136.out (by decide))); have n2_ := Aside0.mk (blk_grown (blk_up BK141.out) hg (Kd.R_ne HO_4.out BK141.out (by decide))); have n3_ := Aside0.mk ((by rw [hw]; exact below_set (HB.out) GB31.out : Below w.heap.size w w50)); clear HO_4; clear BK136; clear BK141; clear HB; have HO_4 := n0_; have BK136 := n1_; have BK141 := n2_; have HB := n3_; clear n0_ n1_ n2_ n3_; clear hg hw hp_; obtain ⟨hcz51_0, hcz51_1, hcz51_2, hfz51_0, hfz51_1, hfz51_2⟩ := blkall_3 BK141.out; obtain ⟨hcz52_0, hcz52_1, hcz52_2, hcz52_3, hfz52_0, hfz52_1, hfz52_2, hfz52_3⟩ := blkall_4 BK136.out) | ((with_reducible refine gate_callee (f := 134) rfl ?_); refine goesL_ (some 72) rfl rfl Tryz.func134 (by kernel_rfl) rfl #[.agg #[.int .i64 ((rd_T123 l0_1 x59_3).f0), .string ((rd_T123 l0_1 x59_3).f1), .slice A140_2 ((rd_T123 l0_1 x59_3).f2).length c140_2], .int .i64 a0_0] rfl (by (try simp only [List.map_toArray, List.map_cons, List.map_nil]); first | done | rfl | (simp only [List.length_drop, List.length_take]; rfl)) ?_; (with_reducible refine (split_may.calls k3 ((rd_T123 l0_1 x59_3).f0) ((rd_T123 l0_1 x59_3).f1) _ _ ((rd_T123 l0_1 x59_3).f2) a0_0 false _ ?side1 ?side2 A32.out).mono ?_); (case side1 => repeat (first | exact (Kd.C_below HR140_2.out HB.out) | (with_reducible refine Kd.C_alloc ?_ _) | (with_reducible refine Kd.C_drewN ?_ _) | (with_reducible refine Kd.C_drew ?_))); (case side2 => exact HC140_2.out); rintro e w53 ⟨rfl, hb⟩; refine ⟨_, rfl, ?_⟩; have n0_ := Aside0.mk (Kd.R_below (by (with_reducible repeat (first | apply Kd.R_alloc | apply Kd.R_drewN | apply Kd.R_drew)); exact HO_4.out) hb); have n1_ := Aside0.mk (blk_below (blk_up BK136.out) hb); have n2_ := Aside0.mk (blk_below (blk_up BK141.out) hb); have n3_ := Aside0.mk (below_step (by repeat (first | (with_reducible first | exact HB.out | apply below_alloc | apply pw_below_drewN | apply below_drew1 | refine below_setA ?_ ‹_›) | exact HB.out)) hb); clear HO_4; clear BK136; clear BK141; clear HB; have HO_4 := n0_; have BK136 := n1_; have BK141 := n2_; have HB := n3_; clear n0_ n1_ n2_ n3_; (try clear hb); (try clear hb2); (try clear hk); (try clear hi)))
        go_ret
        exact ⟨by first | rfl | (simp [errW_none, errW_some] <;> rfl) | (simp [*, errW_none, errW_some] <;> rfl), by repeat (first | (with_reducible first | exact HB.out | apply below_alloc | apply pw_below_drewN | apply below_drew1 | refine below_setA ?_ ‹_›) | exact HB.out)⟩
       subst c33
       have H1 : (split_Check.l0 k3 y142 l0_1 (l0_1.length : Int) (wrap64 (x59_3 + 1)) a0_0 l0_1 a0_2 a0_3) = some r := by rw [if_pos rfl] at H; exact H
       clear H; have H := H1; clear H1
       have H' := Aside0.mk H
       clear H
       have p140 : 0 ≤ (x59_3 : Int) := of_decide_eq_true (by first | (with_reducible assumption) | assumption)
       have q140 : x59_3 < (l0_1.length : Int) := of_decide_eq_true (by first | (with_reducible assumption) | assumption)
       obtain ⟨ad140, A140_2, c140_2, e140, hx140_0, hx140_1, hx140_2, hl140_2, hi140_2⟩ := at_T123 HR0_1.out x59_3 p140 q140
       cases e140
       replace hx140_0 := (HB.out.cell (World.block_lt_of_cell? w _ hx140_0)).trans hx140_0
       replace hx140_1 := (HB.out.cell (World.block_lt_of_cell? w _ hx140_1)).trans hx140_1
       replace hx140_2 := (HB.out.cell (World.block_lt_of_cell? w _ hx140_2)).trans hx140_2
       have HR140_2 := Aside0.mk hi140_2; have HC140_2 := Aside0.mk hl140_2; clear hi140_2 hl140_2
       replace p140 := eq_true p140
       replace q140 := eq_true q140
       go_wp2_with (first | ((with_reducible refine gate_dst (N := 6) rfl ?_); (try (refine gate_guard (by rfl) ?_; dsimp only)); refine box_event ?hg (N := 6) ?hd (cs := #[.int .i64 0, .string (⟨#[]⟩ : ByteArray), .slice none 0 0]) (t := 123) ?hr ?_; (case hd => rfl); (case hg => rfl); (case hr => first | (go_simp; done) | (go_simp; rfl)); intro gb141 hg w34 hbox hb; have n0_ := Aside0.mk (Kd.R_below (by (with_reducible repeat (first | apply Kd.R_alloc | apply Kd.R_drewN | apply Kd.R_drew)); exact HO_4.out) hb); have n1_ := Aside0.mk (blk_below (blk_up BK136.out) hb); have n2_ := Aside0.mk (below_step (by repeat (first | (with_reducible first | exact HB.out | apply below_alloc | apply pw_below_drewN | apply below_drew1 | refine below_setA ?_ ‹_›) | exact HB.out)) hb); have n3_ := Aside0.mk (hbox); have n4_ := Aside0.mk ((by rw [hg]; exact (below_size (by repeat (first | (with_reducible first | exact HB.out | apply below_alloc | apply pw_below_drewN | apply below_drew1 | refine below_setA ?_ ‹_›) | exact HB.out))) : w.heap.size ≤ gb141)); have n5_ := n4_; have n6_ := Aside0.mk ((by rw [hg]; exact Nat.ne_of_lt (blk_lt (blk_up BK136.out)) : gb136 ≠ gb141)); have n7_ := Aside0.mk ((by rw [hg]; exact Nat.ne_of_gt (blk_lt (blk_up BK136.out)) : gb141 ≠ gb136)); clear HO_4; clear BK136; clear HB; have HO_4 := n0_; have BK136 := n1_; have HB := n2_; have BK141 := n3_; have GW141 := n4_; have GE141 := n5_; have NB136_141 := n6_; have NB141_136 := n7_; clear n0_ n1_ n2_ n3_ n4_ n5_ n6_ n7_; clear hb hbox hg; have hnb35 := NB141_136.out; have hnc35 := NB136_141.out; obtain ⟨hcz36_0, hcz36_1, hcz36_2, hfz36_0, hfz36_1, hfz36_2⟩ := blkall_3 BK141.out) | ((with_reducible refine gate_store (t := 123) (p := 6) rfl ?_); refine store_event (t := 123) (p := 6) (v := ?vo_w37) (w1 := (((w34.setCell ⟨gb141, 0, none⟩ (.int .i64 ((rd_T123 l0_1 x59_3).f0))).setCell ⟨gb141, 1, none⟩ (.string ((rd_T123 l0_1 x59_3).f1))).setCell ⟨gb141, 2, none⟩ (.slice A140_2 ((rd_T123 l0_1 x59_3).f2).length c140_2))) ?hg ?ho ?hn ?hr ?_; (case ho => rfl); (case hg => rfl); (case hn => rfl); (case hr => first | (go_simp; done) | (go_simp; rfl)); intro w37 hw; have n0_ : Aside0 (Kd.R (Kd.int .i64) 3 w37 w.heap.size (fun _ => True) v138 x4_3) := ⟨(by rw [hw]; exact (by (with_reducible repeat (first | apply Kd.R_alloc | apply Kd.R_drewN | apply Kd.R_drew)); exact Kd.R_mono (Kd.R_far (p := ⟨gb141, 2, none⟩) (Kd.R_far (p := ⟨gb141, 1, none⟩) (Kd.R_far (p := ⟨gb141, 0, none⟩) (Kd.R_types HO_4.out BK141.out (by decide)) (fun _ hk => hk.2) (.int .i64 ((rd_T123 l0_1 x59_3).f0))) (fun _ hk => hk.2) (.string ((rd_T123 l0_1 x59_3).f1))) (fun _ hk => hk.2) (.slice A140_2 ((rd_T123 l0_1 x59_3).f2).length c140_2)) (fun _ hk => trivial)))⟩; have n1_ : Aside0 (w37.heap[gb136]? = some (.cells #[.int .i64 a0_0, .slice (some ad140) l0_1.length c0_1, .int .i64 a0_2, .int .i64 a0_3] 51 (0, 0))) := ⟨(by rw [hw]; exact (by (with_reducible repeat (first | refine blk_drewN ?_ _ | refine blk_drew ?_ | refine blk_alloc ?_ _ | refine blk_far ?_ NB136_141.out _)); exact BK136.out))⟩; have n2_ : Aside0 (w37.heap[gb141]? = some (.cells #[.int .i64 ((rd_T123 l0_1 x59_3).f0), .string ((rd_T123 l0_1 x59_3).f1), .slice A140_2 ((rd_T123 l0_1 x59_3).f2).length c140_2] 123 (0, 0))) := ⟨(by rw [hw]; exact (by refine blk_up ?_; refine blk_put (cs := #[.int .i64 ((rd_T123 l0_1 x59_3).f0), .string ((rd_T123 l0_1 x59_3).f1), .slice none 0 0]) ?_ 2 _ rfl; refine blk_up ?_; refine blk_put (cs := #[.int .i64 ((rd_T123 l0_1 x59_3).f0), .string (⟨#[]⟩ : ByteArray), .slice none 0 0]) ?_ 1 _ rfl; refine blk_up ?_; refine blk_put (cs := #[.int .i64 0, .string (⟨#[]⟩ : ByteArray), .slice none 0 0]) ?_ 0 _ rfl; refine blk_up ?_; exact BK141.out))⟩; have n3_ : Aside0 (Below w.heap.size w w37) := ⟨(by rw [hw]; exact (by repeat (first | (with_reducible first | exact HB.out | apply below_alloc | apply pw_below_drewN | apply below_drew1 | refine below_setA ?_ ‹_›) | exact HB.out)))⟩; clear hw; clear HO_4; clear BK136; clear BK141; clear HB; have HO_4 := n0_; have BK136 := n1_; have BK141 := n2_; have HB := n3_; clear n0_ n1_ n2_ n3_; obtain ⟨hcz38_0, hcz38_1, hcz38_2, hfz38_0, hfz38_1, hfz38_2⟩ := blkall_3 BK141.out; have p31 : 0 ≤ (x59_3 : Int) := of_decide_eq_true (by first | (with_reducible assumption) | assumption); have q31 : (x59_3 : Int) < ((x4_3.length : Int) : Int) := of_decide_eq_true (by first | (with_reducible assumption) | assumption); obtain ⟨go31, co31, eo31, gb31, gl31, cl31, HG31⟩ := Kd.R_form HO_4.out (by omega); (first | cases eo31 | (injection eo31 with ea_ en_ ec_; (first | subst ea_ | (injection ea_ with ea_; subst ea_)); subst ec_; clear en_)); have GB31 := Aside0.mk gb31; have GG31 := Aside0.mk HG31; clear gb31 gl31 HG31; obtain ⟨hx31_0, hf31_0⟩ := Kd.R_celln 0 HO_4.out (x59_3 : Int) p31 q31; replace p31 := eq_true p31; replace q31 := eq_true q31; obtain ⟨hy39_, hz39_⟩ := Kd.R_celln 0 HO_4.out (x59_3 : Int) (of_decide_eq_true (by first | (with_reducible assumption) | assumption)) (of_decide_eq_true (by first | (with_reducible assumption) | assumption)); have HP39 := Kd.R_putg HO_4.out (x59_3 : Int) ((rd_T123 l0_1 x59_3).f0)) | ((with_reducible refine gate_store (t := 3) (p := 68) rfl ?_); refine store_event (t := 3) (p := 68) (v := ?vo_w40) (w1 := (w37.setCell ⟨go31, (x59_3 : Int).toNat, none⟩ (.int .i64 ((rd_T123 l0_1 x59_3).f0)))) ?hg ?ho ?hn ?hr ?_; (case ho => rfl); (case hg => rfl); (case hn => rfl); (case hr => first | (go_simp; done) | (go_simp; rfl)); intro w40 hw; have hg : w37.grownBy w40 (some go31) := (by rw [hw]; exact HP39.2); have hp_ : Kd.R (Kd.int .i64) 3 w40 w.heap.size (fun _ => True) (.slice (some ⟨go31, 0, none⟩) x4_3.length co31) y142 := (by rw [hw, Ny142.out]; exact HP39.1); clear HP39; have n0_ := Aside0.mk (hp_); have n1_ := Aside0.mk (blk_grown (blk_up BK136.out) hg (Kd.R_ne HO_4.out BK136.out (by decide))); have n2_ := Aside0.mk (blk_grown (blk_up BK141.out) hg (Kd.R_ne HO_4.out BK141.out (by decide))); have n3_ := Aside0.mk ((by rw [hw]; exact below_set (HB.out) GB31.out : Below w.heap.size w w40)); clear HO_4; clear BK136; clear BK141; clear HB; have HO_4 := n0_; have BK136 := n1_; have BK141 := n2_; have HB := n3_; clear n0_ n1_ n2_ n3_; clear hg hw hp_; obtain ⟨hcz41_0, hcz41_1, hcz41_2, hfz41_0, hfz41_1, hfz41_2⟩ := blkall_3 BK141.out; obtain ⟨hcz42_0, hcz42_1, hcz42_2, hcz42_3, hfz42_0, hfz42_1, hfz42_2, hfz42_3⟩ := blkall_4 BK136.out) | ((with_reducible refine gate_callee (f := 134) rfl ?_); refine goesL_ (some 72) rfl rfl Tryz.func134 (by kernel_rfl) rfl #[.agg #[.int .i64 ((rd_T123 l0_1 x59_3).f0), .string ((rd_T123 l0_1 x59_3).f1), .slice A140_2 ((rd_T123 l0_1 x59_3).f2).length c140_2], .int .i64 a0_0] rfl (by (try simp only [List.map_toArray, List.map_cons, List.map_nil]); first | done | rfl | (simp only [List.length_drop, List.length_take]; rfl)) ?_; (with_reducible refine (split_may.calls k3 ((rd_T123 l0_1 x59_3).f0) ((rd_T123 l0_1 x59_3).f1) _ _ ((rd_T123 l0_1 x59_3).f2) a0_0 true _ ?side1 ?side2 A32.out).mono ?_); (case side1 => repeat (first | exact (Kd.C_below HR140_2.out HB.out) | (with_reducible refine Kd.C_alloc ?_ _) | (with_reducible refine Kd.C_drewN ?_ _) | (with_reducible refine Kd.C_drew ?_))); (case side2 => exact HC140_2.out); rintro e w43 ⟨rfl, hb⟩; refine ⟨_, rfl, ?_⟩; have n0_ := Aside0.mk (Kd.R_below (by (with_reducible repeat (first | apply Kd.R_alloc | apply Kd.R_drewN | apply Kd.R_drew)); exact HO_4.out) hb); have n1_ := Aside0.mk (blk_below (blk_up BK136.out) hb); have n2_ := Aside0.mk (blk_below (blk_up BK141.out) hb); have n3_ := Aside0.mk (below_step (by repeat (first | (with_reducible first | exact HB.out | apply below_alloc | apply pw_below_drewN | apply below_drew1 | refine below_setA ?_ ‹_›) | exact HB.out)) hb); clear HO_4; clear BK136; clear BK141; clear HB; have HO_4 := n0_; have BK136 := n1_; have BK141 := n2_; have HB := n3_; clear n0_ n1_ n2_ n3_; (try clear hb); (try clear hb2); (try clear hk); (try clear hi)))
       go_roundg k3
       case measure => have := HJ1.out; have := HJ8.out; have := HK3.out; omega
       case rel => exact ⟨(y142), (wrap64 (x59_3 + 1)), (by first | rfl | (simp; done) | (simp [*]; done)), H', ⟨by have := HJ1.out; have := HJ8.out; have := HK3.out; omega⟩, ⟨by (with_reducible repeat (first | apply Kd.R_alloc | apply Kd.R_drewN | apply Kd.R_drew)); exact HO_4.out⟩, ⟨blk_up BK136.out⟩, ⟨by repeat (first | (with_reducible first | exact HB.out | apply below_alloc | apply pw_below_drewN | apply below_drew1 | refine below_setA ?_ ‹_›) | exact HB.out)⟩⟩
def num_Four.f (a0 : Int) : Option (ByteArray) := some (strOfNums (([(a0 / 16777216) % 256, (a0 / 65536) % 256, (a0 / 256) % 256, (a0) % 256] : List Int)))
set_option maxHeartbeats 8000000 in
set_option maxRecDepth 100000 in
theorem num_Four.calls (a0 : Int) (r : ByteArray) (w : World) (h : num_Four.f a0 = some r) :
  Calls Tryz.prog 128 #[.int .u32 a0] w fun e w' => e = .returned (.string r) ∧ Below w.heap.size w w' := by
 have HB := Aside0.mk (Below.refl w.heap.size w)
 have H : (some (strOfNums (([(a0 / 16777216) % 256, (a0 / 65536) % 256, (a0 / 256) % 256, (a0) % 256] : List Int)))) = some r := h
 clear h
 obtain ⟨y145, hy145⟩ : ∃ y_ : List Int, y_ = (([(a0 / 16777216) % 256, (a0 / 65536) % 256, (a0 / 256) % 256, (a0) % 256] : List Int)) := ⟨_, rfl⟩
 replace H : (some (strOfNums y145)) = some r := by first | (rw [hy145]; with_reducible exact H) | (have H2_ := (Option.bind_some _ _).symm.trans H; rw [hy145]; with_reducible exact H2_) | (have H2_ := (Option.bind_some _ _).symm.trans H; with_reducible exact H2_) | with_reducible exact H | (rw [hy145]; exact H) | exact H
 have Ny145 := Aside0.mk hy145; clear hy145
 obtain rfl := Option.some.inj H
 go_enter Tryz.func128, Tryz.ntmps128
 go_wp2_with (first | ((with_reducible refine gate_dst (N := 14) rfl ?_); refine Kd.R_lit (Kd.int .u8) _ 5 ?hg (N := 14) ?hd (xs := ([(a0 / 16777216) % 256, (a0 / 65536) % 256, (a0 / 256) % 256, (a0) % 256] : List Int)) (inner := [.int .u8 ((a0 / 16777216) % 256), .int .u8 ((a0 / 65536) % 256), .int .u8 ((a0 / 256) % 256), .int .u8 ((a0) % 256)]) (ok := fun _ => True) (okp := fun _ => True) ?hr ?hp (fun _ hk => hk) trivial (Below.refl _ _) (Nat.le_refl _) (by simp) ?_; (case hd => rfl); (case hg => rfl); (case hr => first | (go_simp; done) | (go_simp; rfl)); (case hp => exact (Reps.one (show Kd.M (Kd.int .u8) _ _ _ ((a0 / 16777216) % 256) [.int .u8 ((a0 / 16777216) % 256)] from rfl) (Reps.one (show Kd.M (Kd.int .u8) _ _ _ ((a0 / 65536) % 256) [.int .u8 ((a0 / 65536) % 256)] from rfl) (Reps.one (show Kd.M (Kd.int .u8) _ _ _ ((a0 / 256) % 256) [.int .u8 ((a0 / 256) % 256)] from rfl) (Reps.one (show Kd.M (Kd.int .u8) _ _ _ ((a0) % 256) [.int .u8 ((a0) % 256)] from rfl) (Reps.none _ _)))))); intro v146 w2 ho3 hb hg_ hnew_; clear hg_ hnew_; (first | rw [← Ny145.out] at ho3 | (simp only [Int.reduceToNat] at ho3; rw [← Ny145.out] at ho3)); have n0_ := Aside0.mk (Kd.R_lower ho3 (below_size (by repeat (first | (with_reducible first | exact HB.out | apply below_alloc | apply pw_below_drewN | apply below_drew1) | exact HB.out)))); have n1_ := Aside0.mk (below_step (by repeat (first | (with_reducible first | exact HB.out | apply below_alloc | apply pw_below_drewN | apply below_drew1) | exact HB.out)) hb); clear HB; have HO147 := n0_; have HB := n1_; clear n0_ n1_; clear hb ho3; have hcv4 := own_string (P := Tryz.prog) Tryz.underlying191 Tryz.underlying5 Tryz.underlying9 (Kd.own_of_R HO147.out)))
 go_ret
 exact ⟨by first | rfl | (simp [errW_none, errW_some] <;> rfl) | (simp [*, errW_none, errW_some] <;> rfl), by repeat (first | (with_reducible first | exact HB.out | apply below_alloc | apply pw_below_drewN | apply below_drew1) | exact HB.out)⟩
def sum_turn.f (a0 : Int) : Option (Int) := some (Go.bits .xor .u32 (a0 / 2) (Go.bits .and .u32 ((-(Go.bits .and .u32 a0 1)) % 4294967296) 3988292384))
set_option maxHeartbeats 8000000 in
set_option maxRecDepth 100000 in
theorem sum_turn.calls (a0 : Int) (r : Int) (w : World) (h : sum_turn.f a0 = some r) :
  Calls Tryz.prog 156 #[.int .u32 a0] w fun e w' => e = .returned (.int .u32 r) ∧ Drawn0 w w' := by
 have H : (some (Go.bits .xor .u32 (a0 / 2) (Go.bits .and .u32 ((-(Go.bits .and .u32 a0 1)) % 4294967296) 3988292384))) = some r := h
 clear h
 obtain rfl := Option.some.inj H
 go_enter Tryz.func156, Tryz.ntmps156
 go_wp2
 go_ret
 exact ⟨by first | rfl | (simp; done) | (simp [*]; done), by repeat (first | exact Drawn0.refl _ | apply Drawn0.step)⟩
mutual
def sum_Sum.l0 : Nat → ByteArray → Int → Int → Int → Option (Int)
 | 0, _, _, _, _ => none
 | k + 1, x0, x3, x6, x7 => if x7 < x6 then (if 0 ≤ x7 then (if x7 < (x0.size : Int) then (sum_Sum.l1 k x0 (Go.bits .xor .u32 x3 ((bt x0 x7) % 4294967296)) x6 x7 0) else (none)) else (none)) else (some (Go.bits .xor .u32 4294967295 x3))
def sum_Sum.l1 : Nat → ByteArray → Int → Int → Int → Int → Option (Int)
 | 0, _, _, _, _, _ => none
 | k + 1, x0, x3, x6, x7, x16 => if x16 < 8 then ((sum_turn.f x3).bind fun t148 => (sum_Sum.l1 k x0 t148 x6 x7 (wrap64 (x16 + 1)))) else (sum_Sum.l0 k x0 x3 x6 (wrap64 (x7 + 1)))
end
def sum_Sum.f (k : Nat) (a0 : ByteArray) : Option (Int) := sum_Sum.l0 k a0 4294967295 (a0.size : Int) 0
set_option maxHeartbeats 8000000 in
set_option maxRecDepth 100000 in
theorem sum_Sum.calls (k : Nat) (a0 : ByteArray) (r : Int) (w : World) (h : sum_Sum.f k a0 = some r) :
  Calls Tryz.prog 129 #[.string a0] w fun e w' => e = .returned (.int .u32 r) ∧ Drawn0 w w' := by
 have H : (sum_Sum.l0 k a0 4294967295 (a0.size : Int) 0) = some r := h
 clear h
 have H' := Aside0.mk H
 clear H
 go_enter Tryz.func129, Tryz.ntmps129
 go_wp2
 go_loopg [3, 7] k (fun kq v3 v7 w' => ∃ (x3_1 : Int) (x7_1 : Int), v3 = .int .u32 x3_1 ∧ v7 = .int .i64 x7_1 ∧ Aside0 (sum_Sum.l0 kq a0 x3_1 (a0.size : Int) x7_1 = some r) ∧ Aside0 (kq ≤ k) ∧ Drawn0 w w')
 case atStart => exact ⟨(4294967295), (0), (by first | rfl | (simp; done) | (simp [*]; done)), (by first | rfl | (simp; done) | (simp [*]; done)), H', ⟨Nat.le_refl _⟩, by repeat (first | exact Drawn0.refl _ | apply Drawn0.step)⟩
 case round =>
  clear H'
  obtain ⟨x3_1, x7_1, rfl, rfl, HA, HK1, ⟨m1, rfl⟩⟩ := hrel
  cases gk with
  | zero => exact absurd HA.out (by simp [sum_Sum.l0])
  | succ k1 =>
   have H := HA.out; clear HA
   simp only [sum_Sum.l0] at H
   by_cases c2 : x7_1 < (a0.size : Int)
   rotate_left
   ·
    rw [if_neg c2] at H
    have c2b0 : decide (x7_1 < (a0.size : Int)) = false := decide_eq_false c2
    clear c2
    obtain rfl := Option.some.inj H
    go_wp2
    go_ret
    exact ⟨by first | rfl | (simp; done) | (simp [*]; done), by repeat (first | exact Drawn0.refl _ | apply Drawn0.step)⟩
   rw [if_pos c2] at H
   have c2b0 : decide (x7_1 < (a0.size : Int)) = true := decide_eq_true c2
   clear c2
   by_cases c3 : 0 ≤ x7_1
   rotate_left
   ·
    rw [if_neg c3] at H
    exact absurd H (by simp)
   rw [if_pos c3] at H
   have c3b0 : decide (0 ≤ x7_1) = true := decide_eq_true c3
   clear c3
   by_cases c4 : x7_1 < (a0.size : Int)
   rotate_left
   ·
    rw [if_neg c4] at H
    exact absurd H (by simp)
   rw [if_pos c4] at H
   have c4b0 : decide (x7_1 < (a0.size : Int)) = true := decide_eq_true c4
   clear c4
   have H' := Aside0.mk H
   clear H
   have p5 : 0 ≤ (x7_1 : Int) := of_decide_eq_true (by first | (with_reducible assumption) | assumption)
   have q5 : x7_1 < (a0.size : Int) := of_decide_eq_true (by first | (with_reducible assumption) | assumption)
   have hx5 := bt_at a0 x7_1
   replace p5 := eq_true p5
   replace q5 := eq_true q5
   go_wp2
   go_loopg [3, 16] k1 (fun kq v3 v16 w' => ∃ (x3_2 : Int) (x16_2 : Int), v3 = .int .u32 x3_2 ∧ v16 = .int .i64 x16_2 ∧ Aside0 (sum_Sum.l1 kq a0 x3_2 (a0.size : Int) x7_1 x16_2 = some r) ∧ Aside0 (kq ≤ k1) ∧ Drawn0 w w')
   case atStart => exact ⟨(Go.bits .xor .u32 x3_1 ((bt a0 x7_1) % 4294967296)), (0), (by first | rfl | (simp; done) | (simp [*]; done)), (by first | rfl | (simp; done) | (simp [*]; done)), H', ⟨Nat.le_refl _⟩, by repeat (first | exact Drawn0.refl _ | apply Drawn0.step)⟩
   case round =>
    clear H'
    (try clear c2); (try clear c2b0); (try clear c3); (try clear c3b0); (try clear c4); (try clear c4b0); (try clear p5); (try clear q5); (try clear hx5); (try clear p5); (try clear q5)
    obtain ⟨x3_2, x16_2, rfl, rfl, HA, HK2, ⟨m2, rfl⟩⟩ := hrel
    cases gk with
    | zero => exact absurd HA.out (by simp [sum_Sum.l1])
    | succ k2 =>
     have H := HA.out; clear HA
     simp only [sum_Sum.l1] at H
     by_cases c6 : x16_2 < 8
     rotate_left
     ·
      rw [if_neg c6] at H
      have c6b0 : decide (x16_2 < 8) = false := decide_eq_false c6
      clear c6
      have H' := Aside0.mk H
      clear H
      go_wp2
      go_roundg k2
      case measure => have := HK1.out; have := HK2.out; omega
      case rel => exact ⟨(x3_2), (wrap64 (x7_1 + 1)), (by first | rfl | (simp; done) | (simp [*]; done)), (by first | rfl | (simp; done) | (simp [*]; done)), H', ⟨by have := HK1.out; have := HK2.out; omega⟩, by repeat (first | exact Drawn0.refl _ | apply Drawn0.step)⟩
     rw [if_pos c6] at H
     have c6b0 : decide (x16_2 < 8) = true := decide_eq_true c6
     clear c6
     replace H := Option.bind_eq_some_iff.mp H
     obtain ⟨t148, A70, H⟩ := H
     replace H : (sum_Sum.l1 k2 a0 t148 (a0.size : Int) x7_1 (wrap64 (x16_2 + 1))) = some r := H
     have A7 := Aside0.mk A70; clear A70
     have H' := Aside0.mk H
     clear H
     go_wp2_with (first | ((with_reducible refine gate_callee (f := 156) rfl ?_); refine goesL_ (some 19) rfl rfl Tryz.func156 (by kernel_rfl) rfl #[.int .u32 x3_2] rfl (by (try simp only [List.map_toArray, List.map_cons, List.map_nil]); first | done | rfl | (simp only [List.length_drop, List.length_take]; rfl)) ?_; (with_reducible refine (sum_turn.calls x3_2 t148 _ A7.out).mono ?_); rintro e w' ⟨rfl, ⟨nd, rfl⟩⟩; refine ⟨_, rfl, ?_⟩))
     go_roundg k2
     case measure => have := HK1.out; have := HK2.out; omega
     case rel => exact ⟨(t148), (wrap64 (x16_2 + 1)), (by first | rfl | (simp; done) | (simp [*]; done)), (by first | rfl | (simp; done) | (simp [*]; done)), H', ⟨by have := HK1.out; have := HK2.out; omega⟩, by repeat (first | exact Drawn0.refl _ | apply Drawn0.step)⟩
def frame_Bytes.f (k : Nat) (a0 : ByteArray) : Option (ByteArray × Int) := if (a0.size : Int) > 32768 then (some ((⟨#[]⟩ : ByteArray), 2)) else ((num_Four.f (((a0.size : Int)) % 4294967296)).bind fun t149 => (if t149.size + a0.size ≤ 9223372036854775807 then ((sum_Sum.f k (t149 ++ a0)).bind fun t150 => ((num_Four.f t150).bind fun t151 => (if t149.size + t151.size ≤ 9223372036854775807 then (if (t149 ++ t151).size + a0.size ≤ 9223372036854775807 then (some ((t149 ++ t151) ++ a0, 0)) else (none)) else (none)))) else (none)))
set_option maxHeartbeats 8000000 in
set_option maxRecDepth 100000 in
theorem frame_Bytes.calls (k : Nat) (a0 : ByteArray) (r1 : ByteArray) (r2 : Int) (w : World) (h : frame_Bytes.f k a0 = some (r1, r2)) :
  Calls Tryz.prog 93 #[.string a0] w fun e w' => e = .returned (.tuple #[.string r1, .int .i64 r2]) ∧ Below w.heap.size w w' := by
 have HB := Aside0.mk (Below.refl w.heap.size w)
 have H : (if (a0.size : Int) > 32768 then (some ((⟨#[]⟩ : ByteArray), 2)) else ((num_Four.f (((a0.size : Int)) % 4294967296)).bind fun t149 => (if t149.size + a0.size ≤ 9223372036854775807 then ((sum_Sum.f k (t149 ++ a0)).bind fun t150 => ((num_Four.f t150).bind fun t151 => (if t149.size + t151.size ≤ 9223372036854775807 then (if (t149 ++ t151).size + a0.size ≤ 9223372036854775807 then (some ((t149 ++ t151) ++ a0, 0)) else (none)) else (none)))) else (none)))) = some (r1, r2) := h
 clear h
 by_cases c2 : (a0.size : Int) > 32768
 ·
  rw [if_pos c2] at H
  have c2b0 : decide (32768 < (a0.size : Int)) = true := decide_eq_true c2
  have c2b1 : decide (32768 < a0.size) = true := decide_eq_true (by omega)
  clear c2
  simp only [Option.some.injEq, Prod.mk.injEq] at H
  obtain ⟨rfl, rfl⟩ := H
  go_enter Tryz.func93, Tryz.ntmps93
  go_wp2
  go_ret2
  exact ⟨by first | rfl | (simp [errW_none, errW_some] <;> rfl) | (simp [*, errW_none, errW_some] <;> rfl), by repeat (first | (with_reducible first | exact HB.out | apply below_alloc | apply pw_below_drewN | apply below_drew1) | exact HB.out)⟩
 rw [if_neg c2] at H
 have c2b0 : decide (32768 < (a0.size : Int)) = false := decide_eq_false c2
 have c2b1 : decide (32768 < a0.size) = false := decide_eq_false (by omega)
 clear c2
 replace H := Option.bind_eq_some_iff.mp H
 obtain ⟨t149, A30, H⟩ := H
 replace H : (if t149.size + a0.size ≤ 9223372036854775807 then ((sum_Sum.f k (t149 ++ a0)).bind fun t150 => ((num_Four.f t150).bind fun t151 => (if t149.size + t151.size ≤ 9223372036854775807 then (if (t149 ++ t151).size + a0.size ≤ 9223372036854775807 then (some ((t149 ++ t151) ++ a0, 0)) else (none)) else (none)))) else (none)) = some (r1, r2) := H
 have A3 := Aside0.mk A30; clear A30
 by_cases c4 : t149.size + a0.size ≤ 9223372036854775807
 rotate_left
 ·
  rw [if_neg c4] at H
  exact absurd H (by simp)
 rw [if_pos c4] at H
 have c4b0 := eq_true c4
 have c4b1 : decide (t149.size + a0.size ≤ 9223372036854775807) = true := decide_eq_true c4
 try have c4b2 : (9223372036854775807 < t149.size + a0.size) = False := eq_false (Nat.not_lt.2 c4)
 try (have c4b3 := c4b2; simp only [ByteArray.size_append, ByteArray.size_extract, Nat.min_self] at c4b3)
 replace H := Option.bind_eq_some_iff.mp H
 obtain ⟨t150, A50, H⟩ := H
 replace H : ((num_Four.f t150).bind fun t151 => (if t149.size + t151.size ≤ 9223372036854775807 then (if (t149 ++ t151).size + a0.size ≤ 9223372036854775807 then (some ((t149 ++ t151) ++ a0, 0)) else (none)) else (none))) = some (r1, r2) := H
 have A5 := Aside0.mk A50; clear A50
 replace H := Option.bind_eq_some_iff.mp H
 obtain ⟨t151, A60, H⟩ := H
 replace H : (if t149.size + t151.size ≤ 9223372036854775807 then (if (t149 ++ t151).size + a0.size ≤ 9223372036854775807 then (some ((t149 ++ t151) ++ a0, 0)) else (none)) else (none)) = some (r1, r2) := H
 have A6 := Aside0.mk A60; clear A60
 by_cases c7 : t149.size + t151.size ≤ 9223372036854775807
 rotate_left
 ·
  rw [if_neg c7] at H
  exact absurd H (by simp)
 rw [if_pos c7] at H
 have c7b0 := eq_true c7
 have c7b1 : decide (t149.size + t151.size ≤ 9223372036854775807) = true := decide_eq_true c7
 try have c7b2 : (9223372036854775807 < t149.size + t151.size) = False := eq_false (Nat.not_lt.2 c7)
 try (have c7b3 := c7b2; simp only [ByteArray.size_append, ByteArray.size_extract, Nat.min_self] at c7b3)
 by_cases c8 : (t149 ++ t151).size + a0.size ≤ 9223372036854775807
 rotate_left
 ·
  rw [if_neg c8] at H
  exact absurd H (by simp)
 rw [if_pos c8] at H
 have c8b0 := eq_true c8
 have c8b1 : decide ((t149 ++ t151).size + a0.size ≤ 9223372036854775807) = true := decide_eq_true c8
 try have c8b2 : (9223372036854775807 < (t149 ++ t151).size + a0.size) = False := eq_false (Nat.not_lt.2 c8)
 try (have c8b3 := c8b2; simp only [ByteArray.size_append, ByteArray.size_extract, Nat.min_self] at c8b3)
 simp only [Option.some.injEq, Prod.mk.injEq] at H
 obtain ⟨rfl, rfl⟩ := H
 go_enter Tryz.func93, Tryz.ntmps93
 go_wp2_with (first | ((with_reducible refine gate_callee (f := 128) rfl ?_); refine goesL_ (some 11) rfl rfl Tryz.func128 (by kernel_rfl) rfl #[.int .u32 (((a0.size : Int)) % 4294967296)] rfl (by (try simp only [List.map_toArray, List.map_cons, List.map_nil]); first | done | rfl | (simp only [List.length_drop, List.length_take]; rfl)) ?_; (with_reducible refine (num_Four.calls (((a0.size : Int)) % 4294967296) t149 _ A3.out).mono ?_); rintro e w9 ⟨rfl, hb⟩; refine ⟨_, rfl, ?_⟩; have n0_ := Aside0.mk (below_step (by repeat (first | (with_reducible first | exact HB.out | apply below_alloc | apply pw_below_drewN | apply below_drew1) | exact HB.out)) hb); clear HB; have HB := n0_; clear n0_; (try clear hb); (try clear hb2); (try clear hk); (try clear hi)) | ((with_reducible refine gate_callee (f := 129) rfl ?_); refine goesL_ (some 16) rfl rfl Tryz.func129 (by kernel_rfl) rfl #[.string (t149 ++ a0)] rfl (by (try simp only [List.map_toArray, List.map_cons, List.map_nil]); first | done | rfl | (simp only [List.length_drop, List.length_take]; rfl)) ?_; (with_reducible refine (sum_Sum.calls k (t149 ++ a0) t150 _ A5.out).mono ?_); rintro e w' ⟨rfl, ⟨nd, rfl⟩⟩; refine ⟨_, rfl, ?_⟩) | ((with_reducible refine gate_callee (f := 128) rfl ?_); refine goesL_ (some 17) rfl rfl Tryz.func128 (by kernel_rfl) rfl #[.int .u32 t150] rfl (by (try simp only [List.map_toArray, List.map_cons, List.map_nil]); first | done | rfl | (simp only [List.length_drop, List.length_take]; rfl)) ?_; (with_reducible refine (num_Four.calls t150 t151 _ A6.out).mono ?_); rintro e w10 ⟨rfl, hb⟩; refine ⟨_, rfl, ?_⟩; have n0_ := Aside0.mk (below_step (by repeat (first | (with_reducible first | exact HB.out | apply below_alloc | apply pw_below_drewN | apply below_drew1) | exact HB.out)) hb); clear HB; have HB := n0_; clear n0_; (try clear hb); (try clear hb2); (try clear hk); (try clear hi)))
 go_ret2
 exact ⟨by first | rfl | (simp [errW_none, errW_some] <;> rfl) | (simp [*, errW_none, errW_some] <;> rfl), by repeat (first | (with_reducible first | exact HB.out | apply below_alloc | apply pw_below_drewN | apply below_drew1) | exact HB.out)⟩
def lang_block.f (a0 : Int) : Option (Bool) := if a0 = 28 then (some true) else (some (a0 == 29))
set_option maxHeartbeats 8000000 in
set_option maxRecDepth 100000 in
theorem lang_block.calls (a0 : Int) (r : Bool) (w : World) (h : lang_block.f a0 = some r) :
  Calls Tryz.prog 212 #[.int .i64 a0] w fun e w' => e = .returned (.bool r) ∧ Drawn0 w w' := by
 have H : (if a0 = 28 then (some true) else (some (a0 == 29))) = some r := h
 clear h
 by_cases c2 : a0 = 28
 rotate_left
 ·
  rw [if_neg c2] at H
  have c2b0 : (a0 == 28) = false := beq_eq_false_iff_ne.mpr c2
  have c2b1 : (a0 != 28) = true := bne_iff_ne.mpr c2
  obtain rfl := Option.some.inj H
  go_enter Tryz.func212, Tryz.ntmps212
  go_wp2
  go_ret
  exact ⟨by first | rfl | (simp; done) | (simp [*]; done), by repeat (first | exact Drawn0.refl _ | apply Drawn0.step)⟩
 rw [if_pos c2] at H
 have c2b0 : (a0 == 28) = true := beq_iff_eq.mpr c2
 have c2b1 : (a0 != 28) = false := bne_eq_false_iff_eq.mpr c2
 clear c2
 obtain rfl := Option.some.inj H
 go_enter Tryz.func212, Tryz.ntmps212
 go_wp2
 go_ret
 exact ⟨by first | rfl | (simp; done) | (simp [*]; done), by repeat (first | exact Drawn0.refl _ | apply Drawn0.step)⟩
mutual
def lang_count.l0 : Nat → Int → Int → List (S199) → Int → Int → Option (Int)
 | 0, _, _, _, _, _ => none
 | k + 1, x1, x5, x9, x10, x11 => if x11 < x10 then (if 0 ≤ x11 then (if x11 < (x9.length : Int) then (if ((rd_T199 x9 x11).f0) ≥ 1 then (if ((rd_T199 x9 x11).f0) ≤ 30 then (if ((rd_T199 x9 x11).f1) = 0 then (if (((rd_T199 x9 x11).f2).length : Int) = 0 then (lang_count.j1 k x1 (wrap64 (x5 + 1)) true x9 x10 x11 ((rd_T199 x9 x11).f0) ((rd_T199 x9 x11).f1) ((rd_T199 x9 x11).f2)) else ((lang_block.f ((rd_T199 x9 x11).f0)).bind fun t154 => (lang_count.j1 k x1 (wrap64 (x5 + 1)) t154 x9 x10 x11 ((rd_T199 x9 x11).f0) ((rd_T199 x9 x11).f1) ((rd_T199 x9 x11).f2)))) else (if ((rd_T199 x9 x11).f0) = 1 then (if (((rd_T199 x9 x11).f2).length : Int) = 0 then (lang_count.j1 k x1 (wrap64 (x5 + 1)) true x9 x10 x11 ((rd_T199 x9 x11).f0) ((rd_T199 x9 x11).f1) ((rd_T199 x9 x11).f2)) else ((lang_block.f ((rd_T199 x9 x11).f0)).bind fun t155 => (lang_count.j1 k x1 (wrap64 (x5 + 1)) t155 x9 x10 x11 ((rd_T199 x9 x11).f0) ((rd_T199 x9 x11).f1) ((rd_T199 x9 x11).f2)))) else (lang_count.j1 k x1 (wrap64 (x5 + 1)) false x9 x10 x11 ((rd_T199 x9 x11).f0) ((rd_T199 x9 x11).f1) ((rd_T199 x9 x11).f2)))) else (lang_count.j1 k x1 (wrap64 (x5 + 1)) false x9 x10 x11 ((rd_T199 x9 x11).f0) ((rd_T199 x9 x11).f1) ((rd_T199 x9 x11).f2))) else (lang_count.j1 k x1 (wrap64 (x5 + 1)) false x9 x10 x11 ((rd_T199 x9 x11).f0) ((rd_T199 x9 x11).f1) ((rd_T199 x9 x11).f2))) else (none)) else (none)) else (some x5)
def lang_count.j1 : Nat → Int → Int → Bool → List (S199) → Int → Int → Int → Int → List (S199) → Option (Int)
 | 0, _, _, _, _, _, _, _, _, _ => none
 | k + 1, x1, x5, x8, x9, x10, x11, x154000, x154001, x154002 => if x8 = true then (if x5 > 128 then (some 129) else ((lang_block.f x154000).bind fun t156 => (if t156 = true then (if x1 = 6 then (some 129) else ((lang_count.f k x154002 (wrap64 (x1 + 1))).bind fun t157 => (lang_count.l0 k x1 (wrap64 (x5 + t157)) x9 x10 (wrap64 (x11 + 1))))) else ((lang_count.f k x154002 (wrap64 (x1 + 1))).bind fun t158 => (lang_count.l0 k x1 (wrap64 (x5 + t158)) x9 x10 (wrap64 (x11 + 1))))))) else (some 129)
def lang_count.f : Nat → List (S199) → Int → Option (Int)
 | 0, _, _ => none
 | k + 1, l0, a1 => lang_count.l0 k a1 0 l0 (l0.length : Int) 0
end
set_option maxHeartbeats 8000000 in
set_option maxRecDepth 100000 in
theorem lang_count.calls (k : Nat) : ∀ (A0 : Option Addr) (c0 : Nat) (l0 : List (S199)) (a1 : Int) (r : Int) (w : World) (hr0 : Kd.C k199 w A0 l0.length l0) (hc0 : l0.length ≤ c0) (h : lang_count.f k l0 a1 = some r),
  Calls Tryz.prog 254 #[.slice A0 l0.length c0, .int .i64 a1] w fun e w' => e = .returned (.int .i64 r) ∧ Below w.heap.size w w' := by
 induction k using Nat.strongRecOn with
 | _ k ih =>
 intro A0 c0 l0 a1 r w hr0 hc0 h
 cases k with
 | zero => exact absurd h (by simp [lang_count.f])
 | succ k =>
 simp only [lang_count.f] at h
 have hu199 := Tryz.underlying199; have HR0 := Aside0.mk hr0; have HC0 := Aside0.mk hc0; clear hr0 hc0
 have HB := Aside0.mk (Below.refl w.heap.size w)
 have H : (lang_count.l0 k a1 0 l0 (l0.length : Int) 0) = some r := h
 clear h
 have H' := Aside0.mk H
 clear H
 go_enter Tryz.func254, Tryz.ntmps254
 go_wp2
 go_loopg [5, 11] k (fun kq v5 v11 w' => ∃ (x5_1 : Int) (x11_1 : Int), v5 = .int .i64 x5_1 ∧ v11 = .int .i64 x11_1 ∧ Aside0 (lang_count.l0 kq a1 x5_1 l0 (l0.length : Int) x11_1 = some r) ∧ Aside0 (kq ≤ k) ∧ Aside0 (Below w.heap.size w w'))
 case atStart => exact ⟨(0), (0), (by first | rfl | (simp; done) | (simp [*]; done)), (by first | rfl | (simp; done) | (simp [*]; done)), H', ⟨Nat.le_refl _⟩, ⟨by repeat (first | (with_reducible first | exact HB.out | apply below_alloc | apply pw_below_drewN | apply below_drew1) | exact HB.out)⟩⟩
 case round =>
  clear H'
  obtain ⟨x5_1, x11_1, rfl, rfl, HA, HK1, HB⟩ := hrel
  cases gk with
  | zero => exact absurd HA.out (by simp [lang_count.l0])
  | succ k1 =>
   have H := HA.out; clear HA
   simp only [lang_count.l0] at H
   by_cases c3 : x11_1 < (l0.length : Int)
   rotate_left
   ·
    rw [if_neg c3] at H
    have c3b0 : decide (x11_1 < (l0.length : Int)) = false := decide_eq_false c3
    clear c3
    obtain rfl := Option.some.inj H
    go_wp2
    go_ret
    exact ⟨by first | rfl | (simp [errW_none, errW_some] <;> rfl) | (simp [*, errW_none, errW_some] <;> rfl), by repeat (first | (with_reducible first | exact HB.out | apply below_alloc | apply pw_below_drewN | apply below_drew1) | exact HB.out)⟩
   rw [if_pos c3] at H
   have c3b0 : decide (x11_1 < (l0.length : Int)) = true := decide_eq_true c3
   clear c3
   by_cases c4 : 0 ≤ x11_1
   rotate_left
   ·
    rw [if_neg c4] at H
    exact absurd H (by simp)
   rw [if_pos c4] at H
   have c4b0 : decide (0 ≤ x11_1) = true := decide_eq_true c4
   clear c4
   by_cases c5 : x11_1 < (l0.length : Int)
   rotate_left
   ·
    rw [if_neg c5] at H
    exact absurd H (by simp)
   rw [if_pos c5] at H
   have c5b0 : decide (x11_1 < (l0.length : Int)) = true := decide_eq_true c5
   clear c5; have HC6 := Aside0.mk H; clear H
   have p152 : 0 ≤ (x11_1 : Int) := of_decide_eq_true (by first | (with_reducible assumption) | assumption)
   have q152 : x11_1 < (l0.length : Int) := of_decide_eq_true (by first | (with_reducible assumption) | assumption)
   obtain ⟨ad152, A152_2, c152_2, e152, hx152_0, hx152_1, hx152_2, hl152_2, hi152_2⟩ := at_T199 HR0.out x11_1 p152 q152
   cases e152
   replace hx152_0 := (HB.out.cell (World.block_lt_of_cell? w _ hx152_0)).trans hx152_0
   replace hx152_1 := (HB.out.cell (World.block_lt_of_cell? w _ hx152_1)).trans hx152_1
   replace hx152_2 := (HB.out.cell (World.block_lt_of_cell? w _ hx152_2)).trans hx152_2
   have HR152_2 := Aside0.mk hi152_2; have HC152_2 := Aside0.mk hl152_2; clear hi152_2 hl152_2
   replace p152 := eq_true p152
   replace q152 := eq_true q152
   go_upto_region 6 with (first | ((with_reducible refine gate_dst (N := 7) rfl ?_); (try (refine gate_guard (by rfl) ?_; dsimp only)); refine box_event ?hg (N := 7) ?hd (cs := #[.int .i64 0, .int .i64 0, .slice none 0 0]) (t := 199) ?hr ?_; (case hd => rfl); (case hg => rfl); (case hr => first | (go_simp; done) | (go_simp; rfl)); intro gb153 hg w7 hbox hb; have n0_ := Aside0.mk (below_step (by repeat (first | (with_reducible first | exact HB.out | apply below_alloc | apply pw_below_drewN | apply below_drew1) | exact HB.out)) hb); have n1_ := Aside0.mk (hbox); have n2_ := Aside0.mk ((by rw [hg]; exact (below_size (by repeat (first | (with_reducible first | exact HB.out | apply below_alloc | apply pw_below_drewN | apply below_drew1) | exact HB.out))) : w.heap.size ≤ gb153)); have n3_ := n2_; clear HB; have HB := n0_; have BK153 := n1_; have GW153 := n2_; have GE153 := n3_; clear n0_ n1_ n2_ n3_; clear hb hbox hg; obtain ⟨hcz8_0, hcz8_1, hcz8_2, hfz8_0, hfz8_1, hfz8_2⟩ := blkall_3 BK153.out))
   (try simp only [Act.put, List.setIfInBounds_toArray, List.set_cons_zero, List.set_cons_succ])
   go_cut [8] (fun v8 wc => ∃ (kq : Nat) (x8_5 : Bool), v8 = .bool x8_5 ∧ Aside0 (lang_count.j1 kq a1 (wrap64 (x5_1 + 1)) x8_5 l0 (l0.length : Int) x11_1 ((rd_T199 l0 x11_1).f0) ((rd_T199 l0 x11_1).f1) ((rd_T199 l0 x11_1).f2) = some r) ∧ Aside0 (kq ≤ k1) ∧ Aside0 (wc.heap[gb153]? = some (.cells #[.int .i64 ((rd_T199 l0 x11_1).f0), .int .i64 ((rd_T199 l0 x11_1).f1), (.slice A152_2 ((rd_T199 l0 x11_1).f2).length c152_2)] 199 (0, 0))) ∧ Aside0 (Below w.heap.size w wc))
   case first =>
    have H := HC6.out; clear HC6
    by_cases c9 : ((rd_T199 l0 x11_1).f0) ≥ 1
    rotate_left
    ·
     rw [if_neg c9] at H
     have c9b0 : decide (1 ≤ ((rd_T199 l0 x11_1).f0)) = false := decide_eq_false c9
     clear c9
     (first | rw [c9b0] | (simp only [i64_w, i32_w]; rw [c9b0]) | skip)
     have H' := Aside0.mk H
     clear H
     obtain ⟨hcz23_0, hcz23_1, hcz23_2, hfz23_0, hfz23_1, hfz23_2⟩ := blkall_3 BK153.out
     go_wp2
     go_meet
     case rel => exact ⟨_, (false), (by first | rfl | (simp; done) | (simp [*]; done)), H', ⟨by have := HK1.out; first | omega | exact Nat.le_refl _⟩, ⟨by refine blk_up ?_; refine blk_put (cs := #[.int .i64 ((rd_T199 l0 x11_1).f0), .int .i64 ((rd_T199 l0 x11_1).f1), .slice none 0 0]) ?_ 2 _ rfl; refine blk_up ?_; refine blk_put (cs := #[.int .i64 ((rd_T199 l0 x11_1).f0), .int .i64 0, .slice none 0 0]) ?_ 1 _ rfl; refine blk_up ?_; refine blk_put (cs := #[.int .i64 0, .int .i64 0, .slice none 0 0]) ?_ 0 _ rfl; refine blk_up ?_; exact BK153.out⟩, ⟨by repeat (first | (with_reducible first | exact HB.out | apply below_alloc | apply pw_below_drewN | apply below_drew1 | refine below_setA ?_ ‹_›) | exact HB.out)⟩⟩
    rw [if_pos c9] at H
    have c9b0 : decide (1 ≤ ((rd_T199 l0 x11_1).f0)) = true := decide_eq_true c9
    clear c9
    (first | rw [c9b0] | (simp only [i64_w, i32_w]; rw [c9b0]) | skip)
    by_cases c10 : ((rd_T199 l0 x11_1).f0) ≤ 30
    rotate_left
    ·
     rw [if_neg c10] at H
     have c10b0 : decide (((rd_T199 l0 x11_1).f0) ≤ 30) = false := decide_eq_false c10
     clear c10
     have H' := Aside0.mk H
     clear H
     obtain ⟨hcz22_0, hcz22_1, hcz22_2, hfz22_0, hfz22_1, hfz22_2⟩ := blkall_3 BK153.out
     go_wp2
     go_meet
     case rel => exact ⟨_, (false), (by first | rfl | (simp; done) | (simp [*]; done)), H', ⟨by have := HK1.out; first | omega | exact Nat.le_refl _⟩, ⟨by refine blk_up ?_; refine blk_put (cs := #[.int .i64 ((rd_T199 l0 x11_1).f0), .int .i64 ((rd_T199 l0 x11_1).f1), .slice none 0 0]) ?_ 2 _ rfl; refine blk_up ?_; refine blk_put (cs := #[.int .i64 ((rd_T199 l0 x11_1).f0), .int .i64 0, .slice none 0 0]) ?_ 1 _ rfl; refine blk_up ?_; refine blk_put (cs := #[.int .i64 0, .int .i64 0, .slice none 0 0]) ?_ 0 _ rfl; refine blk_up ?_; exact BK153.out⟩, ⟨by repeat (first | (with_reducible first | exact HB.out | apply below_alloc | apply pw_below_drewN | apply below_drew1 | refine below_setA ?_ ‹_›) | exact HB.out)⟩⟩
    rw [if_pos c10] at H
    have c10b0 : decide (((rd_T199 l0 x11_1).f0) ≤ 30) = true := decide_eq_true c10
    clear c10
    by_cases c11 : ((rd_T199 l0 x11_1).f1) = 0
    ·
     rw [if_pos c11] at H
     have c11b0 : (((rd_T199 l0 x11_1).f1) == 0) = true := beq_iff_eq.mpr c11
     have c11b1 : (((rd_T199 l0 x11_1).f1) != 0) = false := bne_eq_false_iff_eq.mpr c11
     clear c11
     by_cases c12 : (((rd_T199 l0 x11_1).f2).length : Int) = 0
     ·
      rw [if_pos c12] at H
      have c12b0 : ((((rd_T199 l0 x11_1).f2).length : Int) == 0) = true := beq_iff_eq.mpr c12
      have c12b1 : ((((rd_T199 l0 x11_1).f2).length : Int) != 0) = false := bne_eq_false_iff_eq.mpr c12
      clear c12
      have H' := Aside0.mk H
      clear H
      obtain ⟨hcz13_0, hcz13_1, hcz13_2, hfz13_0, hfz13_1, hfz13_2⟩ := blkall_3 BK153.out
      go_wp2
      go_meet
      case rel => exact ⟨_, (true), (by first | rfl | (simp; done) | (simp [*]; done)), H', ⟨by have := HK1.out; first | omega | exact Nat.le_refl _⟩, ⟨by refine blk_up ?_; refine blk_put (cs := #[.int .i64 ((rd_T199 l0 x11_1).f0), .int .i64 ((rd_T199 l0 x11_1).f1), .slice none 0 0]) ?_ 2 _ rfl; refine blk_up ?_; refine blk_put (cs := #[.int .i64 ((rd_T199 l0 x11_1).f0), .int .i64 0, .slice none 0 0]) ?_ 1 _ rfl; refine blk_up ?_; refine blk_put (cs := #[.int .i64 0, .int .i64 0, .slice none 0 0]) ?_ 0 _ rfl; refine blk_up ?_; exact BK153.out⟩, ⟨by repeat (first | (with_reducible first | exact HB.out | apply below_alloc | apply pw_below_drewN | apply below_drew1 | refine below_setA ?_ ‹_›) | exact HB.out)⟩⟩
     rw [if_neg c12] at H
     have c12b0 : ((((rd_T199 l0 x11_1).f2).length : Int) == 0) = false := beq_eq_false_iff_ne.mpr c12
     have c12b1 : ((((rd_T199 l0 x11_1).f2).length : Int) != 0) = true := bne_iff_ne.mpr c12
     have c12b2 : ¬ (((rd_T199 l0 x11_1).f2) = []) := fun h_ => c12 (by rw [h_]; rfl)
     replace H := Option.bind_eq_some_iff.mp H
     obtain ⟨t154, A140, H⟩ := H
     replace H : (lang_count.j1 k1 a1 (wrap64 (x5_1 + 1)) t154 l0 (l0.length : Int) x11_1 ((rd_T199 l0 x11_1).f0) ((rd_T199 l0 x11_1).f1) ((rd_T199 l0 x11_1).f2)) = some r := H
     have A14 := Aside0.mk A140; clear A140
     have H' := Aside0.mk H
     clear H
     obtain ⟨hcz15_0, hcz15_1, hcz15_2, hfz15_0, hfz15_1, hfz15_2⟩ := blkall_3 BK153.out
     go_wp2_with (first | (go_at_call 212; (with_reducible refine (lang_block.calls ((rd_T199 l0 x11_1).f0) t154 _ A14.out).mono ?_); rintro e w' ⟨rfl, ⟨nd, rfl⟩⟩))
     go_meet
     case rel => exact ⟨_, (t154), (by first | rfl | (simp; done) | (simp [*]; done)), H', ⟨by have := HK1.out; first | omega | exact Nat.le_refl _⟩, ⟨by refine blk_up ?_; refine blk_put (cs := #[.int .i64 ((rd_T199 l0 x11_1).f0), .int .i64 ((rd_T199 l0 x11_1).f1), .slice none 0 0]) ?_ 2 _ rfl; refine blk_up ?_; refine blk_put (cs := #[.int .i64 ((rd_T199 l0 x11_1).f0), .int .i64 0, .slice none 0 0]) ?_ 1 _ rfl; refine blk_up ?_; refine blk_put (cs := #[.int .i64 0, .int .i64 0, .slice none 0 0]) ?_ 0 _ rfl; refine blk_up ?_; exact BK153.out⟩, ⟨by repeat (first | (with_reducible first | exact HB.out | apply below_alloc | apply pw_below_drewN | apply below_drew1 | refine below_setA ?_ ‹_›) | exact HB.out)⟩⟩
    rw [if_neg c11] at H
    have c11b0 : (((rd_T199 l0 x11_1).f1) == 0) = false := beq_eq_false_iff_ne.mpr c11
    have c11b1 : (((rd_T199 l0 x11_1).f1) != 0) = true := bne_iff_ne.mpr c11
    by_cases c16 : ((rd_T199 l0 x11_1).f0) = 1
    rotate_left
    ·
     rw [if_neg c16] at H
     have c16b0 : (((rd_T199 l0 x11_1).f0) == 1) = false := beq_eq_false_iff_ne.mpr c16
     have c16b1 : (((rd_T199 l0 x11_1).f0) != 1) = true := bne_iff_ne.mpr c16
     have H' := Aside0.mk H
     clear H
     obtain ⟨hcz21_0, hcz21_1, hcz21_2, hfz21_0, hfz21_1, hfz21_2⟩ := blkall_3 BK153.out
     go_wp2
     go_meet
     case rel => exact ⟨_, (false), (by first | rfl | (simp; done) | (simp [*]; done)), H', ⟨by have := HK1.out; first | omega | exact Nat.le_refl _⟩, ⟨by refine blk_up ?_; refine blk_put (cs := #[.int .i64 ((rd_T199 l0 x11_1).f0), .int .i64 ((rd_T199 l0 x11_1).f1), .slice none 0 0]) ?_ 2 _ rfl; refine blk_up ?_; refine blk_put (cs := #[.int .i64 ((rd_T199 l0 x11_1).f0), .int .i64 0, .slice none 0 0]) ?_ 1 _ rfl; refine blk_up ?_; refine blk_put (cs := #[.int .i64 0, .int .i64 0, .slice none 0 0]) ?_ 0 _ rfl; refine blk_up ?_; exact BK153.out⟩, ⟨by repeat (first | (with_reducible first | exact HB.out | apply below_alloc | apply pw_below_drewN | apply below_drew1 | refine below_setA ?_ ‹_›) | exact HB.out)⟩⟩
    rw [if_pos c16] at H
    have c16b0 : (((rd_T199 l0 x11_1).f0) == 1) = true := beq_iff_eq.mpr c16
    have c16b1 : (((rd_T199 l0 x11_1).f0) != 1) = false := bne_eq_false_iff_eq.mpr c16
    clear c16
    by_cases c17 : (((rd_T199 l0 x11_1).f2).length : Int) = 0
    ·
     rw [if_pos c17] at H
     have c17b0 : ((((rd_T199 l0 x11_1).f2).length : Int) == 0) = true := beq_iff_eq.mpr c17
     have c17b1 : ((((rd_T199 l0 x11_1).f2).length : Int) != 0) = false := bne_eq_false_iff_eq.mpr c17
     clear c17
     have H' := Aside0.mk H
     clear H
     obtain ⟨hcz18_0, hcz18_1, hcz18_2, hfz18_0, hfz18_1, hfz18_2⟩ := blkall_3 BK153.out
     go_wp2
     go_meet
     case rel => exact ⟨_, (true), (by first | rfl | (simp; done) | (simp [*]; done)), H', ⟨by have := HK1.out; first | omega | exact Nat.le_refl _⟩, ⟨by refine blk_up ?_; refine blk_put (cs := #[.int .i64 ((rd_T199 l0 x11_1).f0), .int .i64 ((rd_T199 l0 x11_1).f1), .slice none 0 0]) ?_ 2 _ rfl; refine blk_up ?_; refine blk_put (cs := #[.int .i64 ((rd_T199 l0 x11_1).f0), .int .i64 0, .slice none 0 0]) ?_ 1 _ rfl; refine blk_up ?_; refine blk_put (cs := #[.int .i64 0, .int .i64 0, .slice none 0 0]) ?_ 0 _ rfl; refine blk_up ?_; exact BK153.out⟩, ⟨by repeat (first | (with_reducible first | exact HB.out | apply below_alloc | apply pw_below_drewN | apply below_drew1 | refine below_setA ?_ ‹_›) | exact HB.out)⟩⟩
    rw [if_neg c17] at H
    have c17b0 : ((((rd_T199 l0 x11_1).f2).length : Int) == 0) = false := beq_eq_false_iff_ne.mpr c17
    have c17b1 : ((((rd_T199 l0 x11_1).f2).length : Int) != 0) = true := bne_iff_ne.mpr c17
    have c17b2 : ¬ (((rd_T199 l0 x11_1).f2) = []) := fun h_ => c17 (by rw [h_]; rfl)
    replace H := Option.bind_eq_some_iff.mp H
    obtain ⟨t155, A190, H⟩ := H
    replace H : (lang_count.j1 k1 a1 (wrap64 (x5_1 + 1)) t155 l0 (l0.length : Int) x11_1 ((rd_T199 l0 x11_1).f0) ((rd_T199 l0 x11_1).f1) ((rd_T199 l0 x11_1).f2)) = some r := H
    have A19 := Aside0.mk A190; clear A190
    have H' := Aside0.mk H
    clear H
    obtain ⟨hcz20_0, hcz20_1, hcz20_2, hfz20_0, hfz20_1, hfz20_2⟩ := blkall_3 BK153.out
    go_wp2_with (first | (go_at_call 212; (with_reducible refine (lang_block.calls ((rd_T199 l0 x11_1).f0) t155 _ A19.out).mono ?_); rintro e w' ⟨rfl, ⟨nd, rfl⟩⟩))
    go_meet
    case rel => exact ⟨_, (t155), (by first | rfl | (simp; done) | (simp [*]; done)), H', ⟨by have := HK1.out; first | omega | exact Nat.le_refl _⟩, ⟨by refine blk_up ?_; refine blk_put (cs := #[.int .i64 ((rd_T199 l0 x11_1).f0), .int .i64 ((rd_T199 l0 x11_1).f1), .slice none 0 0]) ?_ 2 _ rfl; refine blk_up ?_; refine blk_put (cs := #[.int .i64 ((rd_T199 l0 x11_1).f0), .int .i64 0, .slice none 0 0]) ?_ 1 _ rfl; refine blk_up ?_; refine blk_put (cs := #[.int .i64 0, .int .i64 0, .slice none 0 0]) ?_ 0 _ rfl; refine blk_up ?_; exact BK153.out⟩, ⟨by repeat (first | (with_reducible first | exact HB.out | apply below_alloc | apply pw_below_drewN | apply below_drew1 | refine below_setA ?_ ‹_›) | exact HB.out)⟩⟩
   case rest =>
    clear HC6
    (try clear c3); (try clear c3b0); (try clear c4); (try clear c4b0); (try clear c5); (try clear c5b0); (try clear hcz8_0); (try clear hcz8_1); (try clear hcz8_2); (try clear hfz8_0); (try clear hfz8_1); (try clear hfz8_2); (try clear hx152_0); (try clear hx152_1); (try clear hx152_2); (try clear p152); (try clear q152)
    obtain ⟨kq, x8_5, rfl, HA, HJ5, BK153, HB⟩ := hcut
    cases kq with
    | zero => exact absurd HA.out (by simp [lang_count.j1])
    | succ kj5 =>
     have H := HA.out; clear HA
     simp only [lang_count.j1] at H
     by_cases c24 : x8_5 = true
     rotate_left
     ·
      replace c24 := Bool.eq_false_iff.mpr c24
      subst c24
      have H1 : (some 129) = some r := by rw [if_neg (show ¬ (false = true) by decide)] at H; exact H
      clear H; have H := H1; clear H1
      obtain rfl := Option.some.inj H
      go_wp2
      go_ret
      exact ⟨by first | rfl | (simp [errW_none, errW_some] <;> rfl) | (simp [*, errW_none, errW_some] <;> rfl), by repeat (first | (with_reducible first | exact HB.out | apply below_alloc | apply pw_below_drewN | apply below_drew1 | refine below_setA ?_ ‹_›) | exact HB.out)⟩
     subst c24
     have H1 : (if (wrap64 (x5_1 + 1)) > 128 then (some 129) else ((lang_block.f ((rd_T199 l0 x11_1).f0)).bind fun t156 => (if t156 = true then (if a1 = 6 then (some 129) else ((lang_count.f kj5 ((rd_T199 l0 x11_1).f2) (wrap64 (a1 + 1))).bind fun t157 => (lang_count.l0 kj5 a1 (wrap64 ((wrap64 (x5_1 + 1)) + t157)) l0 (l0.length : Int) (wrap64 (x11_1 + 1))))) else ((lang_count.f kj5 ((rd_T199 l0 x11_1).f2) (wrap64 (a1 + 1))).bind fun t158 => (lang_count.l0 kj5 a1 (wrap64 ((wrap64 (x5_1 + 1)) + t158)) l0 (l0.length : Int) (wrap64 (x11_1 + 1))))))) = some r := by rw [if_pos rfl] at H; exact H
     clear H; have H := H1; clear H1
     by_cases c25 : (wrap64 (x5_1 + 1)) > 128
     ·
      rw [if_pos c25] at H
      have c25b0 : decide (128 < (wrap64 (x5_1 + 1))) = true := decide_eq_true c25
      clear c25
      obtain rfl := Option.some.inj H
      go_wp2
      go_ret
      exact ⟨by first | rfl | (simp [errW_none, errW_some] <;> rfl) | (simp [*, errW_none, errW_some] <;> rfl), by repeat (first | (with_reducible first | exact HB.out | apply below_alloc | apply pw_below_drewN | apply below_drew1 | refine below_setA ?_ ‹_›) | exact HB.out)⟩
     rw [if_neg c25] at H
     have c25b0 : decide (128 < (wrap64 (x5_1 + 1))) = false := decide_eq_false c25
     clear c25
     replace H := Option.bind_eq_some_iff.mp H
     obtain ⟨t156, A260, H⟩ := H
     replace H : (if t156 = true then (if a1 = 6 then (some 129) else ((lang_count.f kj5 ((rd_T199 l0 x11_1).f2) (wrap64 (a1 + 1))).bind fun t157 => (lang_count.l0 kj5 a1 (wrap64 ((wrap64 (x5_1 + 1)) + t157)) l0 (l0.length : Int) (wrap64 (x11_1 + 1))))) else ((lang_count.f kj5 ((rd_T199 l0 x11_1).f2) (wrap64 (a1 + 1))).bind fun t158 => (lang_count.l0 kj5 a1 (wrap64 ((wrap64 (x5_1 + 1)) + t158)) l0 (l0.length : Int) (wrap64 (x11_1 + 1))))) = some r := H
     have A26 := Aside0.mk A260; clear A260
     by_cases c27 : t156 = true
     rotate_left
     ·
      replace c27 := Bool.eq_false_iff.mpr c27
      subst c27
      have H1 : ((lang_count.f kj5 ((rd_T199 l0 x11_1).f2) (wrap64 (a1 + 1))).bind fun t158 => (lang_count.l0 kj5 a1 (wrap64 ((wrap64 (x5_1 + 1)) + t158)) l0 (l0.length : Int) (wrap64 (x11_1 + 1)))) = some r := by rw [if_neg (show ¬ (false = true) by decide)] at H; exact H
      clear H; have H := H1; clear H1
      replace H := Option.bind_eq_some_iff.mp H
      obtain ⟨t158, A330, H⟩ := H
      replace H : (lang_count.l0 kj5 a1 (wrap64 ((wrap64 (x5_1 + 1)) + t158)) l0 (l0.length : Int) (wrap64 (x11_1 + 1))) = some r := H
      have A33 := Aside0.mk A330; clear A330
      have H' := Aside0.mk H
      clear H
      obtain ⟨hcz34_0, hcz34_1, hcz34_2, hfz34_0, hfz34_1, hfz34_2⟩ := blkall_3 BK153.out
      go_wp2_with (first | (go_at_call 212; (with_reducible refine (lang_block.calls ((rd_T199 l0 x11_1).f0) false _ A26.out).mono ?_); rintro e w' ⟨rfl, ⟨nd, rfl⟩⟩) | ((with_reducible refine gate_callee (f := 254) rfl ?_); refine goesL_ (some 66) rfl rfl Tryz.func254 (by kernel_rfl) rfl #[.slice A152_2 ((rd_T199 l0 x11_1).f2).length c152_2, .int .i64 (wrap64 (a1 + 1))] rfl (by (try simp only [List.map_toArray, List.map_cons, List.map_nil]); first | done | rfl | (simp only [List.length_drop, List.length_take]; rfl)) ?_; (with_reducible refine (ih kj5 (by have := HK1.out; have := HJ5.out; omega) _ _ ((rd_T199 l0 x11_1).f2) (wrap64 (a1 + 1)) t158 _ ?side1 ?side2 A33.out).mono ?_); (case side1 => repeat (first | exact (Kd.C_below HR152_2.out (by repeat (first | (with_reducible first | exact HB.out | apply below_alloc | apply pw_below_drewN | apply below_drew1 | refine below_setA ?_ ‹_›) | exact HB.out))) | (with_reducible refine Kd.C_alloc ?_ _) | (with_reducible refine Kd.C_drewN ?_ _) | (with_reducible refine Kd.C_drew ?_))); (case side2 => exact HC152_2.out); rintro e w35 ⟨rfl, hb⟩; refine ⟨_, rfl, ?_⟩; have n0_ := Aside0.mk (blk_below (blk_up BK153.out) hb); have n1_ := Aside0.mk (below_step (by repeat (first | (with_reducible first | exact HB.out | apply below_alloc | apply pw_below_drewN | apply below_drew1 | refine below_setA ?_ ‹_›) | exact HB.out)) hb); clear BK153; clear HB; have BK153 := n0_; have HB := n1_; clear n0_ n1_; (try clear hb); (try clear hb2); (try clear hk); (try clear hi)))
      go_roundg kj5
      case measure => have := HK1.out; have := HJ5.out; omega
      case rel => exact ⟨(wrap64 ((wrap64 (x5_1 + 1)) + t158)), (wrap64 (x11_1 + 1)), (by first | rfl | (simp; done) | (simp [*]; done)), (by first | rfl | (simp; done) | (simp [*]; done)), H', ⟨by have := HK1.out; have := HJ5.out; omega⟩, ⟨by repeat (first | (with_reducible first | exact HB.out | apply below_alloc | apply pw_below_drewN | apply below_drew1 | refine below_setA ?_ ‹_›) | exact HB.out)⟩⟩
     subst c27
     have H1 : (if a1 = 6 then (some 129) else ((lang_count.f kj5 ((rd_T199 l0 x11_1).f2) (wrap64 (a1 + 1))).bind fun t157 => (lang_count.l0 kj5 a1 (wrap64 ((wrap64 (x5_1 + 1)) + t157)) l0 (l0.length : Int) (wrap64 (x11_1 + 1))))) = some r := by rw [if_pos rfl] at H; exact H
     clear H; have H := H1; clear H1
     by_cases c28 : a1 = 6
     ·
      rw [if_pos c28] at H
      have c28b0 : (a1 == 6) = true := beq_iff_eq.mpr c28
      have c28b1 : (a1 != 6) = false := bne_eq_false_iff_eq.mpr c28
      clear c28
      obtain rfl := Option.some.inj H
      obtain ⟨hcz29_0, hcz29_1, hcz29_2, hfz29_0, hfz29_1, hfz29_2⟩ := blkall_3 BK153.out
      go_wp2_with (first | (go_at_call 212; (with_reducible refine (lang_block.calls ((rd_T199 l0 x11_1).f0) true _ A26.out).mono ?_); rintro e w' ⟨rfl, ⟨nd, rfl⟩⟩))
      go_ret
      exact ⟨by first | rfl | (simp [errW_none, errW_some] <;> rfl) | (simp [*, errW_none, errW_some] <;> rfl), by repeat (first | (with_reducible first | exact HB.out | apply below_alloc | apply pw_below_drewN | apply below_drew1 | refine below_setA ?_ ‹_›) | exact HB.out)⟩
     rw [if_neg c28] at H
     have c28b0 : (a1 == 6) = false := beq_eq_false_iff_ne.mpr c28
     have c28b1 : (a1 != 6) = true := bne_iff_ne.mpr c28
     replace H := Option.bind_eq_some_iff.mp H
     obtain ⟨t157, A300, H⟩ := H
     replace H : (lang_count.l0 kj5 a1 (wrap64 ((wrap64 (x5_1 + 1)) + t157)) l0 (l0.length : Int) (wrap64 (x11_1 + 1))) = some r := H
     have A30 := Aside0.mk A300; clear A300
     have H' := Aside0.mk H
     clear H
     obtain ⟨hcz31_0, hcz31_1, hcz31_2, hfz31_0, hfz31_1, hfz31_2⟩ := blkall_3 BK153.out
     go_wp2_with (first | (go_at_call 212; (with_reducible refine (lang_block.calls ((rd_T199 l0 x11_1).f0) true _ A26.out).mono ?_); rintro e w' ⟨rfl, ⟨nd, rfl⟩⟩) | ((with_reducible refine gate_callee (f := 254) rfl ?_); refine goesL_ (some 66) rfl rfl Tryz.func254 (by kernel_rfl) rfl #[.slice A152_2 ((rd_T199 l0 x11_1).f2).length c152_2, .int .i64 (wrap64 (a1 + 1))] rfl (by (try simp only [List.map_toArray, List.map_cons, List.map_nil]); first | done | rfl | (simp only [List.length_drop, List.length_take]; rfl)) ?_; (with_reducible refine (ih kj5 (by have := HK1.out; have := HJ5.out; omega) _ _ ((rd_T199 l0 x11_1).f2) (wrap64 (a1 + 1)) t157 _ ?side1 ?side2 A30.out).mono ?_); (case side1 => repeat (first | exact (Kd.C_below HR152_2.out (by repeat (first | (with_reducible first | exact HB.out | apply below_alloc | apply pw_below_drewN | apply below_drew1 | refine below_setA ?_ ‹_›) | exact HB.out))) | (with_reducible refine Kd.C_alloc ?_ _) | (with_reducible refine Kd.C_drewN ?_ _) | (with_reducible refine Kd.C_drew ?_))); (case side2 => exact HC152_2.out); rintro e w32 ⟨rfl, hb⟩; refine ⟨_, rfl, ?_⟩; have n0_ := Aside0.mk (blk_below (blk_up BK153.out) hb); have n1_ := Aside0.mk (below_step (by repeat (first | (with_reducible first | exact HB.out | apply below_alloc | apply pw_below_drewN | apply below_drew1 | refine below_setA ?_ ‹_›) | exact HB.out)) hb); clear BK153; clear HB; have BK153 := n0_; have HB := n1_; clear n0_ n1_; (try clear hb); (try clear hb2); (try clear hk); (try clear hi)))
     go_roundg kj5
     case measure => have := HK1.out; have := HJ5.out; omega
     case rel => exact ⟨(wrap64 ((wrap64 (x5_1 + 1)) + t157)), (wrap64 (x11_1 + 1)), (by first | rfl | (simp; done) | (simp [*]; done)), (by first | rfl | (simp; done) | (simp [*]; done)), H', ⟨by have := HK1.out; have := HJ5.out; omega⟩, ⟨by repeat (first | (with_reducible first | exact HB.out | apply below_alloc | apply pw_below_drewN | apply below_drew1 | refine below_setA ?_ ‹_›) | exact HB.out)⟩⟩
end Go.Proofs.YtpepmmfhanaipaaGreatDoor.PAux
